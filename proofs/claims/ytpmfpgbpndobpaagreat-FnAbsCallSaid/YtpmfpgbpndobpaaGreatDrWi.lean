/- The draw of a state within another one. No condition. -/
import Derived.Test.YtpmfpgbpndobpaaGreatDrSt
import Derived.Test.YtpmfpgbpndobpaaGreatSums
namespace Go.Proofs.YtpmfpgbpndobpaaGreat
open Go.RowKit
set_option linter.unusedVariables false
set_option linter.unusedSimpArgs false
attribute [local go_sem] dg_cell dg_frozen dg_lt dg_lt1 dg_lt2 dg_ne dg_ne1 dg_ne2 dg_new dg_wen lt_s2 lt_s3 lt_s4 lt_s5 lt_s6

section
variable {ops : Array Oper} {Q : Exit → Act → World → Prop} {a0 : Act} {g PP : Nat} {c : Nat → Nat} {J : World → Prop} {F : Nat → Prop} {R : Nat → World → Value → Prop} {i : Nat} {o : Oper}
theorem ds_inner (d1 d2 : Tmp) (k1 k2 : Nat) (h : ∀ (a : Act) (W : World), (execOp a.eval o).run Tryz.prog W = .ok (.enter 112 #[a.eval (.tmp d1), a.eval (.tmp d2)]) W) (hdep1 : Dep ops o k1 d1) (hdep2 : Dep ops o k2 d2)
    (hq : ∀ W v, R k1 W v → v = .pointer (some ⟨g, 0, none⟩)) (hq2 : ∀ W v, R k2 W v → IsItv v) (hc : c i = 10) (hPP : PP + 20 ≤ 1099511627776) (hR : ∀ W v, IsItv v → R i W v) (hJ : ∀ W W', J W → ChgG g W W' → J W') (hF : F g) : DStep Tryz.prog ops Q a0 g PP c J F R i o :=
  ds_call (vals := fun ρ => #[ρ (.tmp d1), ρ (.tmp d2)]) (good := fun ρ w => ρ (.tmp d1) = .pointer (some ⟨g, 0, none⟩) ∧ IsItv (ρ (.tmp d2))) h (fun a w hf hd => ⟨hq _ _ (dep_of hdep1 hd), hq2 _ _ (dep_of hdep2 hd)⟩) (fun ρ p w hg hr hp => by
    obtain ⟨h1, lo, hi, h2⟩ := hg
    rw [h1, h2, hc]
    exact innerG hr (by omega)) hR hJ hF
end
set_option maxRecDepth 100000 in
set_option maxHeartbeats 1000000 in
theorem withinG {g P n c : Nat} {on : Bool} {a : Option Addr} {lo hi : Int} {w : World} (h : RdLe w g P) (hp : P + 400 ≤ 1099511627776) (hs : StD w (g + 1) a n c) (h4 : on = true → n = 4) :
    Calls Tryz.prog 62 #[.pointer (some ⟨g, 0, none⟩), .agg #[.bool on, .slice a n c, .int .i64 lo, .int .i64 hi]] w (RetSD g (P + 200) w) := by
  have lt0 := h.lt
  have HP := Lib.hid h
  have HS := Lib.hid hs
  clear h hs
  obtain ⟨b3, hb3⟩ : ∃ b, w.heap.size = b := ⟨_, rfl⟩
  obtain ⟨wA, hwA⟩ : ∃ W, w.alloc (.cells #[.bool on, .slice a n c, .int .i64 lo, .int .i64 hi] 33) = W := ⟨_, rfl⟩
  have hsA : b3 + 1 = wA.heap.size := by rw [← hwA, ← hb3]; simp
  have SA := Lib.hid (show Blk wA b3 33 #[.bool on, .slice a n c, .int .i64 lo, .int .i64 hi] from by rw [← hwA, ← hb3]; exact Blk.new _ _ _)
  have gA : Grew w wA := by rw [← hwA]; exact grew_al (Below.refl _ _) _
  have HSA := Lib.hid (HS.out.grew gA)
  have RA := Lib.hid (HP.out.grew gA)
  have GA := Lib.hid gA
  have lt1 : g < wA.heap.size := by omega
  have n3g : ¬ b3 = g := by omega
  clear gA HS HP
  have Z0 := Lib.hid (Blk.new wA 33 Zs)
  have hal : Grew wA (wA.alloc (.cells Zs 33)) := grew_al (Below.refl _ _) _
  have S0 := Lib.hid (SA.out.grew hal)
  have R0 := Lib.hid (RA.out.grew hal)
  have HRet : Hid (∀ (W' : World) (v : Ending), RetSD g (P + 200) wA v W' → RetSD g (P + 200) w v W') := Lib.hid (fun (W' : World) (v : Ending) (h : RetSD g (P + 200) wA v W') => show RetSD g (P + 200) w v W' from by
    obtain ⟨on, a, n, c, lo, hi, h1, h2, h3, h4⟩ := h
    exact ⟨on, a, n, c, lo, hi, h1, h2.mono (by omega), h3, ChgG.trans (ChgG.of_grew GA.out) h4⟩)
  clear hal
  have HB3 := Lib.hid hb3
  have HWA := Lib.hid hwA
  have HS1 := Lib.hid hsA
  clear hb3 hwA hsA
  cases on
  · go_enter Tryz.func62, Tryz.ntmps62
    go_wp2
    simp only [HWA.out, HB3.out, HS1.out]
    have z0 := Z0.out.cell 0
    have zl := Z0.out.lt
    refine bodyPost_ret (by simp [results, Tryz.results62, go_sem]; try rfl) rfl ?_
    exact HRet.out _ _ ⟨_, _, _, _, _, _, rfl, StD.zero _ _, R0.out.mono (by omega), chg_al (ChgG.refl _ _) _⟩
  obtain rfl := h4 rfl
  obtain ⟨ts, rfl, hts, hcap0⟩ : ∃ t, a = some ⟨t, 0, none⟩ ∧ g + 1 ≤ t ∧ RowB t wA := by
    obtain ⟨_, _, ⟨h, _⟩ | h⟩ := HSA.out
    · cases h
    · exact h
  have HTS := Lib.hid hcap0
  clear hcap0 HSA
  go_enter Tryz.func62, Tryz.ntmps62
  go_wp2_with fail
  simp only [HWA.out, HB3.out, HS1.out]
  refine calls_let ?_
  intro E0 hE0
  have CE : ChgG g wA E0 := by rw [hE0]; exact chg_al (ChgG.refl _ _) _
  have ZE : Blk E0 wA.heap.size 33 Zs := by rw [hE0]; exact Blk.new _ _ _
  have RE : RdLe E0 g P := by rw [hE0]; exact R0.out
  clear hE0 Z0 S0 R0
  refine Calls.mono (oddG (k := 12) RE (by omega) (by omega)) ?_
  rintro e w1 ⟨v, rfl, ⟨o, rfl⟩, hr, hc⟩
  have ne1 : ¬ wA.heap.size = g := by omega
  have C1 := Lib.hid (CE.trans hc)
  have Z1 := Lib.hid (ZE.chg hc ne1)
  have R1 := Lib.hid hr
  have S1 := Lib.hid (SA.out.chg C1.out n3g)
  have hz1 := Z1.out.lt
  clear hr hc CE ZE RE
  cases o
  rotate_left
  · have z0 : w1.cell? ⟨wA.heap.size, 0, none⟩ = some (.bool false) := Z1.out.cell 0
    have z1 : w1.cell? ⟨wA.heap.size, 1, none⟩ = some (.slice none 0 0) := Z1.out.cell 1
    have z2 : w1.cell? ⟨wA.heap.size, 2, none⟩ = some (.int .i64 0) := Z1.out.cell 2
    have z3 : w1.cell? ⟨wA.heap.size, 3, none⟩ = some (.int .i64 0) := Z1.out.cell 3
    have zf := fun j => Z1.out.frozen j
    have zl := Z1.out.lt
    go_wp2
    refine bodyPost_ret (by simp [results, Tryz.results62, go_sem, z0, z1, z2, z3, zl]; try rfl) rfl ?_
    refine HRet.out _ _ ⟨_, _, _, _, _, _, rfl, StD.zero _ _, ?_, ?_⟩
    · exact (rd_set (rd_set (rd_set (rd_set R1.out (by simp only; omega) _) (by simp only; omega) _) (by simp only; omega) _) (by simp only; omega) _).mono (by omega)
    · exact chg_set (chg_set (chg_set (chg_set C1.out (Nat.le_refl _) _) (Nat.le_refl _) _) (Nat.le_refl _) _) (Nat.le_refl _) _
  have s2 : w1.cell? ⟨b3, 2, none⟩ = some (.int .i64 lo) := S1.out.cell 2
  have s3 : w1.cell? ⟨b3, 3, none⟩ = some (.int .i64 hi) := S1.out.cell 3
  have sl := S1.out.lt
  go_wp2_with fail
  refine Calls.mono (innerG R1.out (by omega)) ?_
  rintro e w2 ⟨v, rfl, ⟨y0, y1, rfl⟩, hr2, hc2⟩
  have C2 := Lib.hid (C1.out.trans hc2)
  have Z2 := Lib.hid (Z1.out.chg hc2 ne1)
  have R2 := Lib.hid hr2
  have hz2 := Z2.out.lt
  obtain ⟨b6, hb6⟩ : ∃ b, w2.heap.size = b := ⟨_, rfl⟩
  have h6 : wA.heap.size < b6 := by omega
  have n6 : ¬ b6 = g := by omega
  have nzb : ¬ wA.heap.size = b6 := by omega
  clear hr2 hc2 C1 Z1 R1 S1 s2 s3 sl hz1
  go_wp2
  try simp only [hb6]
  refine wp_let_c ?_
  intro E hE
  have HPC : Hid (PS0 g wA b6 y0 y1 0 E) := Lib.hid ⟨by rw [hE]; have := C2.out; exact g_chg, by rw [hE]; have := Z2.out; (repeat (first | with_reducible assumption | with_reducible exact Blk.new' (by simp only [World.size_alloc, World.size_drew, World.size_setCell]) | with_reducible refine Blk.alloc ?_ _ | with_reducible refine Blk.grew ?_ (grew_d (Below.refl _ _)) | with_reducible refine Blk.far ?_ (by first | assumption | (simp only; omega)) _)), .slice none 0 0, [], rfl, by rw [hE]; subst hb6; (repeat (first | with_reducible assumption | with_reducible exact Blk.new' (by simp only [World.size_alloc, World.size_drew, World.size_setCell]) | with_reducible refine Blk.alloc ?_ _ | with_reducible refine Blk.grew ?_ (grew_d (Below.refl _ _)) | with_reducible refine Blk.far ?_ (by first | assumption | (simp only; omega)) _)), World.ownsRow_nil _ _ _ _⟩
  have HR2 : Hid (RdLe E g (P + 11 + 10 * 0)) := Lib.hid (by rw [hE]; have := R2.out; exact g_rd)
  clear hE C2 Z2 R2 hb6 hz2
  go_loopw [6] (fun i wr => ∃ k : Nat, k ≤ 4 ∧ i = .int .i64 k ∧ PS0 g wA b6 y0 y1 k wr ∧ RdLe wr g (P + 11 + 10 * k)) (fun i _ => 4 - (intOf i).toNat)
  case atStart => exact ⟨0, Nat.zero_le _, rfl, HPC.out, HR2.out⟩
  case round =>
    clear HPC HR2
    obtain ⟨k, hk, rfl, ⟨hC, hZ, v, xs, hl, hB, hO⟩, hR⟩ := hrel
    obtain ⟨a, cap, rfl⟩ := owns_slice hO
    have c60 : wr.cell? ⟨b6, 0, none⟩ = some (.bool true) := hB.cell 0
    have c61 : wr.cell? ⟨b6, 1, none⟩ = some (.slice a k cap) := hB.cell 1
    have c62 : wr.cell? ⟨b6, 2, none⟩ = some (.int .i64 y0) := hB.cell 2
    have c63 : wr.cell? ⟨b6, 3, none⟩ = some (.int .i64 y1) := hB.cell 3
    have f6 := fun j => hB.frozen j
    have l6 := hB.lt
    have hrow := fun b hb => hO.lt b hb
    have nb6 := blk_ne hB hO (by decide)
    have nz := blk_ne hZ hO (by decide)
    have HC := Lib.hid hC
    have HR := Lib.hid hR
    have HZ := Lib.hid hZ
    have HB := Lib.hid hB
    have HO := Lib.hid hO
    have HRow := Lib.hid hrow
    have HN := Lib.hid nb6
    have HNZ := Lib.hid nz
    have HL := Lib.hid hl
    clear hC hR hZ hB hO hrow nb6 nz hl
    by_cases hlt : k < 4
    · go_wp2_with fail
      have hPP : P + 11 + 10 * k + 10 + 20 ≤ 1099511627776 := by omega
      have hJC : ∀ b W W', JS g wA b6 y0 y1 k xs a cap b W → ChgG g W W' → JS g wA b6 y0 y1 k xs a cap b W' := fun b W W' h c => h.cg c lt1 n6
      have hJA : ∀ b W o, JS g wA b6 y0 y1 k xs a cap b W → JS g wA b6 y0 y1 k xs a cap b (W.alloc o) := fun b W o h => h.cg (ChgG.of_grew (grew_al (Below.refl _ _) _)) lt1 n6
      obtain ⟨FF, hFFe⟩ : ∃ FF : Nat → Prop, FF = fun t => t = g ∨ t = b6 ∨ t = wA.heap.size ∨ (Value.slice a k cap).ownBlock = some t := ⟨_, rfl⟩
      have hFF : ∀ b, (b = g ∨ b = b6 ∨ b = wA.heap.size) → FF b := fun b hb => by
        rw [hFFe]
        rcases hb with h | h | h
        · exact .inl h
        · exact .inr (.inl h)
        · exact .inr (.inr (.inl h))
      have hFA : ∀ b, (Value.slice a k cap).ownBlock = some b → FF b := fun b hb => by rw [hFFe]; exact .inr (.inr (.inr hb))
      have hFl : ∀ b W, JS g wA b6 y0 y1 k xs a cap b W → ∀ t, FF t → t < W.heap.size := fun b W h t ht => by rw [hFFe] at ht; exact h.fl lt1 t ht
      clear hFFe
      have hX : ∀ W W' (x : Itv), Chg (fun b => b = g ∨ b = b6 ∨ b = wA.heap.size) W W' → XTI W x → XTI W' x := fun _ _ _ _ _ => trivial
      have hJ0 : JS g wA b6 y0 y1 k xs a cap false wr.drew := ⟨chg_drew HC.out, HZ.out.grew (grew_d (Below.refl _ _)), HB.out.grew (grew_d (Below.refl _ _)), fun _ => owns_grew HO.out (grew_d (Below.refl _ _)), fun t ht => ⟨(HRow.out t ht).1, (HRow.out t ht).2, fun e => HN.out (e ▸ ht), fun e => HNZ.out (e ▸ ht)⟩⟩
      have hSrc : ∀ b W, JS g wA b6 y0 y1 k xs a cap b W → Blk W b3 33 #[.bool true, .slice (some ⟨ts, 0, none⟩) 4 c, .int .i64 lo, .int .i64 hi] ∧ RowB ts W := fun b W h => ⟨SA.out.chg h.1 n3g, HTS.out.chg h.1 (by omega)⟩
      have hki : (k : Int) < 4 := by omega
      refine region_drawA g (P + 11 + 10 * k) 10 37 10 12 12 [0, 0, 0, 0, 0, 0, 0, 0, 10, 0, 0, 0, 0] (JS g wA b6 y0 y1 k xs a cap) (PS0 g wA b6 y0 y1 (k + 1)) (fun b => b = g ∨ b = b6 ∨ b = wA.heap.size) (fun b => (Value.slice a k cap).ownBlock = some b)
        [prV (fun v => v = .pointer (some ⟨b6, 1, none⟩)), prV (fun v => v = .slice a k cap), prV (fun v => v = .pointer (some ⟨g, 0, none⟩)), prV (fun v => v = .pointer (some ⟨b3, 1, none⟩)), prV (fun v => v = .slice (some ⟨ts, 0, none⟩) 4 c), prV (fun v => v = .int .i64 k), prV (fun v => v = .pointer (some ⟨ts, k * 2, none⟩)), prV IsItv, prIsX Itv.cells XTI hX, prOneX 31 Itv.cells XTI FF (fun b hb => hFF b hb) hX, prNewX 31 2 Itv.cells XTI wA.heap.size k xs hX, prV (fun v => v = .pointer (some ⟨b6, 1, none⟩)), prT]
        (by kernel_rfl) rfl (by kernel_rfl) (by kernel_rfl) (by kernel_rfl) (by decide) (by decide) (by kernel_rfl) ?_ hJ0 HR.out ⟨?_, ?_, ?_, ?_, ?_, ?_, ?_, ?_, ?_, ?_, ?_, ?_, ?_, trivial⟩ ?_
      · intro j W W' u hj hc hu
        rcases j with _ | _ | _ | _ | _ | _ | _ | _ | _ | _ | _ | _ | _ | j
        all_goals first | exact hu | exact absurd rfl hj | exact OneX.chg hu hc hFA (fun _ h => h)
      · refine ⟨fun _ _ b => ?_, (fun h => by cases h), (fun h => by cases h)⟩
        exact ds_field 5 1 _ _ rfl (by kernel_rfl) rfl (fun W => by kernel_rfl) (fun _ => rfl)
      · refine ⟨fun _ _ b => ?_, (fun h => by cases h), (fun h => by cases h)⟩
        exact ds_run (.slice a k cap) (fun A W hJ hf hd => by
          have e0 : A.eval (.tmp 24) = .pointer (some ⟨b6, 1, none⟩) := dep_of (k := 0) (d := 24) ⟨⟨⟨0, .data⟩, by simp, rfl, by kernel_rfl⟩, by kernel_rfl⟩ hd
          have c2 : W.cell? ⟨b6, 1, none⟩ = some (.slice a k cap) := hJ.2.2.1.cell 1
          simp only [execOp, e0]
          simp [go_sem, c2]) (fun _ => rfl)
      · refine ⟨fun _ _ b => ?_, (fun h => by cases h), (fun h => by cases h)⟩
        exact ds_move 0 _ rfl (by kernel_rfl) rfl (fun _ => rfl)
      · refine ⟨fun _ _ b => ?_, (fun h => by cases h), (fun h => by cases h)⟩
        exact ds_field 3 1 _ _ rfl (by kernel_rfl) rfl (fun W => by kernel_rfl) (fun _ => rfl)
      · refine ⟨fun _ _ b => ?_, (fun h => by cases h), (fun h => by cases h)⟩
        exact ds_run (.slice (some ⟨ts, 0, none⟩) 4 c) (fun A W hJ hf hd => by
          have e0 : A.eval (.tmp 27) = .pointer (some ⟨b3, 1, none⟩) := dep_of (k := 3) (d := 27) ⟨⟨⟨3, .data⟩, by simp, rfl, by kernel_rfl⟩, by kernel_rfl⟩ hd
          have c2 : W.cell? ⟨b3, 1, none⟩ = some (.slice (some ⟨ts, 0, none⟩) 4 c) := (hSrc b W hJ).1.cell 1
          simp only [execOp, e0]
          simp [go_sem, c2]) (fun _ => rfl)
      · refine ⟨fun _ _ b => ?_, (fun h => by cases h), (fun h => by cases h)⟩
        exact ds_move 6 _ rfl (by kernel_rfl) rfl (fun _ => rfl)
      · refine ⟨fun _ _ b => ?_, (fun h => by cases h), (fun h => by cases h)⟩
        exact ds_run (.pointer (some ⟨ts, k * 2, none⟩)) (fun A W hJ hf hd => by
          have e0 : A.eval (.tmp 28) = .slice (some ⟨ts, 0, none⟩) 4 c := dep_of (k := 4) (d := 28) ⟨⟨⟨4, .data⟩, by simp, rfl, by kernel_rfl⟩, by kernel_rfl⟩ hd
          have e1 : A.eval (.tmp 29) = .int .i64 k := dep_of (k := 5) (d := 29) ⟨⟨⟨5, .data⟩, by simp, rfl, by kernel_rfl⟩, by kernel_rfl⟩ hd
          simp only [execOp, e0, e1]
          simp [go_sem, hki, hlt]) (fun _ => rfl)
      · refine ⟨fun _ _ b => ?_, (fun h => by cases h), (fun h => by cases h)⟩
        intro A W p hp hJ hr hf hd
        have e0 : A.eval (.tmp 30) = .pointer (some ⟨ts, k * 2, none⟩) := dep_of (k := 6) (d := 30) ⟨⟨⟨6, .data⟩, by simp, rfl, by kernel_rfl⟩, by kernel_rfl⟩ hd
        obtain ⟨u0, hu0⟩ := (hSrc b W hJ).2.get (i := k * 2) (by omega)
        obtain ⟨u1, hu1⟩ := (hSrc b W hJ).2.get (i := k * 2 + 1) (by omega)
        refine op_val (v := .agg #[.int .i64 u0, .int .i64 u1]) (w' := W) ?_ ⟨_, rfl, ⟨_, _, rfl⟩, hJ, hr.mono (by omega), Chg.refl _ _⟩
        simp only [execOp, e0]
        simp [go_sem, hu0, hu1]
      · refine ⟨fun _ _ b => ?_, (fun h => by cases h), (fun h => by cases h)⟩
        exact ds_inner 26 31 2 7 (fun _ _ => by kernel_rfl) ⟨⟨⟨2, .data⟩, by simp, rfl, by kernel_rfl⟩, by kernel_rfl⟩ ⟨⟨⟨7, .data⟩, by simp, rfl, by kernel_rfl⟩, by kernel_rfl⟩ (fun _ _ h => h) (fun _ _ h => h) rfl hPP (fun _ _ h => isX_itv (F := FF) h) (hJC b) (.inl rfl)
      · refine ⟨fun _ _ b => ?_, (fun h => by cases h), (fun h => by cases h)⟩
        exact ds_oneX (f := Itv.cells) (X := XTI) FF 32 8 rfl ⟨⟨⟨8, .data⟩, by simp, rfl, by kernel_rfl⟩, by kernel_rfl⟩ (fun _ _ h => h) (fun x W => by kernel_rfl) (fun _ _ _ _ => trivial) (fun _ _ h => h) (hJA b) (hFl b)
      · refine ⟨fun _ h => absurd rfl h, fun _ => ?_, (fun h => by cases h)⟩
        exact ds_appendX (f := Itv.cells) (X := XTI) FF 25 1 33 9 itvEl itv_len (fun _ x _ => itv_one1 x) rfl rfl rfl ⟨⟨⟨1, .data⟩, by simp, rfl, by kernel_rfl⟩, by kernel_rfl⟩ ⟨⟨⟨9, .data⟩, by simp, rfl, by kernel_rfl⟩, by kernel_rfl⟩ (fun _ _ h => h) (fun _ _ h => h) (by omega) (by omega) (fun _ _ _ _ _ => trivial) (fun W h => ⟨h.2.2.2.1 rfl, h.1.size⟩) (fun W h => h.fn lt1) lt1 (fun _ _ h => h) (fun W W' h c => h.ap c)
      · refine ⟨fun _ _ b => ?_, (fun h => by cases h), (fun h => by cases h)⟩
        exact ds_field 5 1 _ _ rfl (by kernel_rfl) rfl (fun W => by kernel_rfl) (fun _ => rfl)
      · refine ⟨fun h => absurd rfl h, (fun h => by cases h), fun _ => ?_⟩
        refine ds_storeX (f := Itv.cells) (X := XTI) b6 1 33 #[.bool true, .slice a k cap, .int .i64 y0, .int .i64 y1] 35 11 34 10 rfl ⟨⟨⟨11, .data⟩, by simp, rfl, by kernel_rfl⟩, by kernel_rfl⟩ ⟨⟨⟨10, .data⟩, by simp, rfl, by kernel_rfl⟩, by kernel_rfl⟩ (fun A W a n cp y e1 e2 h c f => by
          obtain ⟨_, _, _, e⟩ := h
          subst e
          simp only [execOp, e1, e2]
          simp [go_sem, c, f]) (fun _ _ h => h) (fun _ _ h => h) (fun W h => h.2.2.1) ⟨_, _, _, rfl⟩ (fun W v h hn hb hne => ?_) (by omega) (.inr (.inl rfl)) (fun _ _ => trivial)
        obtain ⟨a5, cap5, x, rfl, hown, hn5, _⟩ := hn
        exact ⟨chg_set h.1 (by simp only; omega) _, h.2.1.far (by simp only; omega) _, _, xs ++ [x], by rw [List.length_append, HL.out]; rfl, hb, owns_far hown hne _⟩
      · rintro vs w5 hJ1 hP hR
        have HI := Lib.hid hJ1
        have HP5 : Hid (RdLe w5 g (P + 11 + 10 * (k + 1))) := Lib.hid (hP.mono (by omega))
        clear hR hJ1 hP hJ0 hSrc hX hFl hFA hFF FF hJA hJC hPP
        simp only [putAll, Act.put, List.setIfInBounds_toArray, List.set_cons_zero, List.set_cons_succ]
        go_wp2
        go_roundw
        case rel => exact ⟨k + 1, by omega, by go_num, HI.out, HP5.out⟩
        case measure => (simp [intOf]; try omega)
    · obtain rfl : k = 4 := by omega
      obtain ⟨t, rfl, ht, hcap, hrb⟩ := RowB.of_own HO.out
      have HRB := Lib.hid hrb
      have ntz : ¬ t = wA.heap.size := fun e => HNZ.out (by rw [e]; rfl)
      clear hrb
      have z0 : wr.cell? ⟨wA.heap.size, 0, none⟩ = some (.bool false) := HZ.out.cell 0
      have z1 : wr.cell? ⟨wA.heap.size, 1, none⟩ = some (.slice none 0 0) := HZ.out.cell 1
      have z2 : wr.cell? ⟨wA.heap.size, 2, none⟩ = some (.int .i64 0) := HZ.out.cell 2
      have z3 : wr.cell? ⟨wA.heap.size, 3, none⟩ = some (.int .i64 0) := HZ.out.cell 3
      have zf := fun j => HZ.out.frozen j
      have zl := HZ.out.lt
      go_wp2
      refine bodyPost_ret (by simp [results, Tryz.results62, go_sem, z0, z1, z2, z3, zl]; try rfl) rfl ?_
      refine HRet.out _ _ ⟨_, _, _, _, _, _, rfl, ⟨by omega, by omega, .inr ⟨t, rfl, ht, (((HRB.out.far ntz _).far ntz _).far ntz _).far ntz _⟩⟩, ?_, ?_⟩
      · exact (rd_set (rd_set (rd_set (rd_set HR.out (by simp only; omega) _) (by simp only; omega) _) (by simp only; omega) _) (by simp only; omega) _).mono (by omega)
      · exact chg_set (chg_set (chg_set (chg_set HC.out (Nat.le_refl _) _) (Nat.le_refl _) _) (Nat.le_refl _) _) (Nat.le_refl _) _
end Go.Proofs.YtpmfpgbpndobpaaGreat
