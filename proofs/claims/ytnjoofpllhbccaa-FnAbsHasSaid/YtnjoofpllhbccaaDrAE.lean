/- The draw of a procedure for AbsEntry. No condition. -/
import Derived.Test.YtnjoofpllhbccaaDrP
namespace Go.Proofs.Ytnjoofpllhbccaa
open Go.RowKit
set_option linter.unusedVariables false
set_option linter.unusedSimpArgs false
attribute [local go_sem] dg_cell dg_frozen dg_lt dg_lt1 dg_lt2 dg_ne dg_ne1 dg_ne2 dg_new dg_wen lt_s2 lt_s3 lt_s4 lt_s5 lt_s6

section
variable {ops : Array Oper} {Q : Exit → Act → World → Prop} {a0 : Act} {g PP : Nat} {c : Nat → Nat} {J : World → Prop} {F : Nat → Prop} {R : Nat → World → Value → Prop} {i : Nat} {o : Oper}
theorem ds_addR (d : Tmp) (k : Nat) (n : Int) (hop : o.op = .binOp .add 3 (.tmp d) (.const (.int .i64 n)) 3) (h1 : Dep ops o k d) (hs : ∀ W v, R k W v → IsInt v) (hR : ∀ W v, IsInt v → R i W v) : DStep Try.prog ops Q a0 g PP c J F R i o := by
  intro a w p hp hJ hr hf hd
  obtain ⟨x, hx⟩ := hs _ _ (dep_of h1 hd)
  refine op_val (v := .int .i64 (IntKind.i64.wrap (x + n))) (w' := w) ?_ ⟨_, rfl, hR _ _ ⟨_, rfl⟩, hJ, hr.mono (by omega), Chg.refl _ _⟩
  simp only [execOp, hop, hx, eval_const]
  simp [go_sem]
  try rfl
/-- A slice of one slot's number and a constant. -/
theorem ds_lit2 (d : Tmp) (k : Nat) (n : Int) (hop : o.op = .buildSlice 27 2 #[(0, .tmp d), (1, .const (.int .i64 n))]) (h1 : Dep ops o k d) (hs : ∀ W v, R k W v → IsInt v)
    (hrun : ∀ (x : Int) (W : World), (Instr.buildSlice 27 2 #[(0, .int .i64 x), (1, .int .i64 n)]).run Try.prog W = .ok (.slice (some ⟨W.heap.size, 0, none⟩) 2 2) (W.alloc (.cells #[.int .i64 x, .int .i64 n] 3)))
    (hR : ∀ W v, SlI F 2 W v → R i W v) (hJ : ∀ W o, J W → J (W.alloc o)) (hF : ∀ W, J W → ∀ b, F b → b < W.heap.size) : DStep Try.prog ops Q a0 g PP c J F R i o := by
  intro a w p hp hJ1 hr hf hd
  obtain ⟨x, hx⟩ := hs _ _ (dep_of h1 hd)
  refine op_val (v := .slice (some ⟨w.heap.size, 0, none⟩) 2 2) (w' := w.alloc (.cells #[.int .i64 x, .int .i64 n] 3)) ?_ ⟨_, rfl, hR _ _ ⟨_, rfl, by simp, fun hb => absurd (hF w hJ1 _ hb) (by omega), fun j hj => ?_⟩, hJ _ _ hJ1, (rd_al hr _).mono (by omega), Chg.of_below (grew_al (Below.refl _ _) _)⟩
  · simp only [execOp, hop, List.map_toArray, List.map_cons, List.map_nil, hx, eval_const]
    simp [hrun, Result.andThen]
  · have hj' : j = 0 ∨ j = 1 := by omega
    rcases hj' with rfl | rfl
    · exact ⟨x, by rw [World.cell?_alloc_new]; rfl⟩
    · exact ⟨n, by rw [World.cell?_alloc_new]; rfl⟩
theorem ds_storeI (ad : Addr) (d1 k1 d2 k2 : Nat) (hop : o.op = .store 3 (.tmp d1) (.tmp d2)) (h1 : Dep ops o k1 d1) (h2 : Dep ops o k2 d2) (hs1 : ∀ W v, R k1 W v → v = .pointer (some ad)) (hs2 : ∀ W v, R k2 W v → IsInt v)
    (hJ : ∀ W, J W → ∃ x, W.cell? ad = some x ∧ W.frozen? ad = false ∧ x.oneCell' = true) (hJ2 : ∀ W (y : Int), J W → J (W.setCell ad (.int .i64 y))) (hg : g < ad.block) (hF : F ad.block) (hR : ∀ W v, R i W v) : DStep Try.prog ops Q a0 g PP c J F R i o := by
  intro a w p hp hJ1 hr hf hd
  have e1 := hs1 _ _ (dep_of h1 hd)
  obtain ⟨y, e2⟩ := hs2 _ _ (dep_of h2 hd)
  obtain ⟨x, hx, hfz, hone⟩ := hJ w hJ1
  refine op_skip (w' := w.setCell ad (.int .i64 y)) ?_ ⟨_, rfl, hR _ _, hJ2 _ _ hJ1, (rd_set hr hg _).mono (by omega), ⟨rfl, rfl, rfl, by simp, fun k hk hn => Below.heap_setCell w ad _ k (fun e => hn (e ▸ hF))⟩⟩
  simp only [execOp, hop, e1, e2]
  simp [go_sem, hx, hfz]
end

set_option maxRecDepth 100000 in
set_option maxHeartbeats 4000000 in
theorem DrawAbsEntry (a : Option Addr) (n cap : Nat) (zs : List Int) (w : World) (hr : Rd w a n 1 (ints .u8 zs)) (hz : Bs zs) (hc : n ≤ cap ∧ cap ≤ maxLen) :
    Calls Try.prog 12 #[.slice a n cap] w fun e w' => ∃ lo hi v, ∃ is : List Ins, e = .returned (.agg #[.int .i64 lo, .int .i64 hi, v]) ∧ w'.ownsRow w.heap.size 53 8 v is.length (is.flatMap Ins.cells) ∧ is.length ≤ 12 ∧ Grew w w' := by
  have HR0 := Lib.hid (hr.grew (grew_al (Below.refl _ w) (.cells Zp 25))); clear hr
  have HZ := Lib.hid hz; clear hz
  go_enter Try.func12, Try.ntmps12
  go_wp2_with fail
  refine (l20Open _ _ _ _ _ HR0.out HZ.out hc).mono ?_
  rintro e w1 ⟨rfl, h1, h2⟩
  have hZ1 : Blk w1 w.heap.size 25 Zp := (Blk.new w _ _).grew h2
  have G1 : Grew w w1 := grew_tr (grew_al (Below.refl _ w) _) h2
  obtain ⟨g, hg⟩ : ∃ g, w.heap.size + 1 = g := ⟨_, rfl⟩
  simp only [World.size_alloc, hg] at h1 ⊢
  have hgw : w.heap.size < g := by omega
  have lg := h1.lt
  have H1 := Lib.hid h1
  clear h1 h2 hg HR0 HZ
  go_wp2_with fail
  refine Calls.mono (procG H1.out (by omega) (by omega)) ?_
  rintro e w2 ⟨lo, hi, v, is, rfl, ho, ⟨_, hle⟩, hr2, hc2⟩
  obtain ⟨ia, ic, rfl⟩ := owns_slice ho
  have lw := hc2.size
  go_wp2_with fail
  refine Calls.mono (oddG (k := 5) (rd_al hr2 _) (by omega) (by omega)) ?_
  rintro e w3 ⟨v, rfl, ⟨o, rfl⟩, hr3, hc3⟩
  have hZ3 : Blk w3 w.heap.size 25 Zp := ((hZ1.chg hc2 (by omega)).alloc _).chg hc3 (by omega)
  have hB3 : Blk w3 w2.heap.size 25 #[.int .i64 lo, .int .i64 hi, .slice ia is.length ic] := (Blk.new w2 _ _).chg hc3 (by omega)
  have hO3 := owns_chg (ho.alloc (.cells #[.int .i64 lo, .int .i64 hi, .slice ia is.length ic] 25)) hc3 (fun b hb e => by have := (ho.lt b hb).1; omega)
  have hC3 : ChgG g w1 w3 := ChgG.trans (chg_al hc2 _) hc3
  have G3 : Grew w w3 := G1.trans (hC3.belowB G1.size (fun k hk => by omega))
  obtain ⟨b4, hb4⟩ : ∃ b, w2.heap.size = b := ⟨_, rfl⟩
  rw [hb4] at hB3 ⊢
  have s4 : w1.heap.size ≤ b4 := by omega
  have n4 : ¬ b4 = g := by omega
  have n24 : ¬ w.heap.size = b4 := by omega
  have HN : Hid (∀ b, (Value.slice ia is.length ic).ownBlock = some b → w1.heap.size ≤ b ∧ b < b4) := Lib.hid (fun b hb => by have := ho.lt b hb; omega)
  have HW : Hid (w.heap.size ≤ w1.heap.size) := Lib.hid G1.size
  have HP3 := Lib.hid hr3
  clear ho hr2 hc2 hr3 hc3 hC3 hZ1 G1 H1
  cases o
  · have hZ := hZ3
    have hB := hB3
    have hO := hO3
    have hG := G3
    clear hZ3 hB3 hO3 G3
    have z0 : w3.cell? ⟨w.heap.size, 0, none⟩ = some (.int .i64 0) := hZ.cell 0
    have z1 : w3.cell? ⟨w.heap.size, 1, none⟩ = some (.int .i64 0) := hZ.cell 1
    have z2 : w3.cell? ⟨w.heap.size, 2, none⟩ = some (.slice none 0 0) := hZ.cell 2
    have zf := fun j => hZ.frozen j
    have zl := hZ.lt
    have d0 : w3.cell? ⟨b4, 0, none⟩ = some (.int .i64 lo) := hB.cell 0
    have d1 : w3.cell? ⟨b4, 1, none⟩ = some (.int .i64 hi) := hB.cell 1
    have d2 : w3.cell? ⟨b4, 2, none⟩ = some (.slice ia is.length ic) := hB.cell 2
    have HO := Lib.hid hO
    have HG := Lib.hid hG
    clear hZ hB hO hG
    go_wp2
    refine bodyPost_ret (by simp [results, Try.results12, go_sem, z0, z1, z2, zl, n24]; try rfl) rfl ?_
    have hz : (Value.slice ia is.length ic).ownBlock ≠ some w.heap.size := fun e => by have := (HN.out _ e).1; omega
    refine ⟨_, _, _, is, rfl, owns_mono (owns_far (owns_far (owns_far HO.out hz _) hz _) hz _) (by have := HW.out; omega), hle, ?_⟩
    have hg := HG.out
    exact grew_set (grew_set (grew_set hg (Nat.le_refl _) _) (Nat.le_refl _) _) (Nat.le_refl _) _
  · go_wp2_with fail
    have hPP : 0 + 400 + 1 + 1 ≤ 1099511627776 := by omega
    refine region_drawL g (0 + 400 + 1) 1 21 [0, 0, 0, 0, 0, 1, 0, 0, 0, 0] (fun W => Grew w W ∧ Blk W w.heap.size 25 Zp ∧ W.ownsRow w1.heap.size 53 8 (.slice ia is.length ic) is.length (is.flatMap Ins.cells) ∧ ∃ x : Int, Blk W b4 25 #[.int .i64 x, .int .i64 hi, .slice ia is.length ic]) (fun b => b = g ∨ b = b4)
      [prV (fun v => v = .pointer (some ⟨b4, 1, none⟩)), prV IsInt, prV IsInt, prSl 2, prV (fun v => v = .pointer (some ⟨g, 0, none⟩)), prV (IsNat 2), prPt, prV IsInt, prV (fun v => v = .pointer (some ⟨b4, 0, none⟩)), prT]
      (by kernel_rfl) rfl (by kernel_rfl) (by kernel_rfl) ⟨grew_d G3, hZ3, hO3, lo, hB3⟩ HP3.out ⟨?_, ?_, ?_, ?_, ?_, ?_, ?_, ?_, ?_, ?_, trivial⟩ ?_
    · exact ds_field 4 1 _ _ rfl (by kernel_rfl) rfl (fun W => by kernel_rfl) (fun _ => rfl)
    · exact ds_loadB 11 0 _ rfl ⟨⟨⟨0, .data⟩, by simp, rfl, by kernel_rfl⟩, by kernel_rfl⟩ (fun _ _ h => h) (fun W h => by obtain ⟨x, hb⟩ := h.2.2.2; exact ⟨hi, hb.cell 1⟩) (fun _ _ h => h)
    · exact ds_addR 12 1 1 rfl ⟨⟨⟨1, .data⟩, by simp, rfl, by kernel_rfl⟩, by kernel_rfl⟩ (fun _ _ h => h) (fun _ _ h => h)
    · exact ds_lit2 13 2 (-32769) rfl ⟨⟨⟨2, .data⟩, by simp, rfl, by kernel_rfl⟩, by kernel_rfl⟩ (fun _ _ h => h) (fun x W => by kernel_rfl) (fun _ _ h => h) (fun W o h => ⟨grew_al h.1 o, h.2.1.alloc o, h.2.2.1.alloc o, by obtain ⟨x, hb⟩ := h.2.2.2; exact ⟨x, hb.alloc o⟩⟩) (fun W h b hb => by obtain ⟨x, hb4'⟩ := h.2.2.2; have := hb4'.lt; rcases hb with rfl | rfl <;> omega)
    · exact ds_move 3 _ rfl (by kernel_rfl) rfl (fun _ => rfl)
    · exact ds_pick 15 4 2 (fun _ _ => by kernel_rfl) ⟨⟨⟨4, .data⟩, by simp, rfl, by kernel_rfl⟩, by kernel_rfl⟩ (fun _ _ h => h) rfl hPP (by omega) (fun _ _ h => h) (fun W W' h c => ⟨h.1.trans (c.belowB h.1.size (fun k hk => by omega)), h.2.1.chg c (by omega), owns_chg h.2.2.1 c (fun b hb e => by have := (HN.out b hb).1; omega), by obtain ⟨x, hb⟩ := h.2.2.2; exact ⟨x, hb.chg c n4⟩⟩) (.inl rfl)
    · exact ds_index 14 16 3 5 2 rfl ⟨⟨⟨3, .data⟩, by simp, rfl, by kernel_rfl⟩, by kernel_rfl⟩ ⟨⟨⟨5, .data⟩, by simp, rfl, by kernel_rfl⟩, by kernel_rfl⟩ (fun _ _ h => h) (fun _ _ h => h) (by omega) (by omega) (fun _ _ h => h)
    · exact ds_load 17 6 rfl ⟨⟨⟨6, .data⟩, by simp, rfl, by kernel_rfl⟩, by kernel_rfl⟩ (fun _ _ h => h) (fun _ _ h => h)
    · exact ds_field 4 0 _ _ rfl (by kernel_rfl) rfl (fun W => by kernel_rfl) (fun _ => rfl)
    · exact ds_storeI ⟨b4, 0, none⟩ 19 8 18 7 rfl ⟨⟨⟨8, .data⟩, by simp, rfl, by kernel_rfl⟩, by kernel_rfl⟩ ⟨⟨⟨7, .data⟩, by simp, rfl, by kernel_rfl⟩, by kernel_rfl⟩ (fun _ _ h => h) (fun _ _ h => h) (fun W h => by obtain ⟨x, hb⟩ := h.2.2.2; exact ⟨_, hb.cell 0, hb.frozen 0, rfl⟩) (fun W y h => ⟨grew_set h.1 (by omega) _, h.2.1.far (by simp only; omega) _, owns_far h.2.2.1 (fun e => by have := (HN.out _ e).2; simp only at this; omega) _, by obtain ⟨x, hb⟩ := h.2.2.2; exact ⟨y, hb.set_ 0 _⟩⟩) (by simp only; omega) (.inr rfl) (fun _ _ => trivial)
    · rintro vs w5 ⟨hG, hZ, hO, x, hB⟩ hr5 hR
      clear hr5 hR hZ3 hB3 hO3 G3
      simp only [putAll, Act.put, List.setIfInBounds_toArray, List.set_cons_zero, List.set_cons_succ]
      have z0 : w5.cell? ⟨w.heap.size, 0, none⟩ = some (.int .i64 0) := hZ.cell 0
      have z1 : w5.cell? ⟨w.heap.size, 1, none⟩ = some (.int .i64 0) := hZ.cell 1
      have z2 : w5.cell? ⟨w.heap.size, 2, none⟩ = some (.slice none 0 0) := hZ.cell 2
      have zf := fun j => hZ.frozen j
      have zl := hZ.lt
      have d0 : w5.cell? ⟨b4, 0, none⟩ = some (.int .i64 x) := hB.cell 0
      have d1 : w5.cell? ⟨b4, 1, none⟩ = some (.int .i64 hi) := hB.cell 1
      have d2 : w5.cell? ⟨b4, 2, none⟩ = some (.slice ia is.length ic) := hB.cell 2
      have HO := Lib.hid hO
      have HG := Lib.hid hG
      clear hZ hB hO hG
      go_wp2
      refine bodyPost_ret (by simp [results, Try.results12, go_sem, z0, z1, z2, zl, n24]; try rfl) rfl ?_
      have hz : (Value.slice ia is.length ic).ownBlock ≠ some w.heap.size := fun e => by have := (HN.out _ e).1; omega
      refine ⟨_, _, _, is, rfl, owns_mono (owns_far (owns_far (owns_far HO.out hz _) hz _) hz _) (by have := HW.out; omega), hle, ?_⟩
      have hg := HG.out
      exact grew_set (grew_set (grew_set hg (Nat.le_refl _) _) (Nat.le_refl _) _) (Nat.le_refl _) _
end Go.Proofs.Ytnjoofpllhbccaa
