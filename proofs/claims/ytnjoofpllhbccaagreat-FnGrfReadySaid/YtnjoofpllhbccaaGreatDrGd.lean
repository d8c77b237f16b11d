/- Lemmas and walks of this proof, some texts one behind the other. No condition. -/
import Derived.Test.YtnjoofpllhbccaaGreatDrX
set_option linter.unusedSimpArgs false
set_option linter.unusedVariables false
/- The draw of a small program. No condition. -/
namespace Go.Proofs.YtnjoofpllhbccaaGreat
open Go.RowKit
set_option linter.unusedVariables false
set_option linter.unusedSimpArgs false
attribute [local go_sem] dg_cell dg_frozen dg_lt dg_lt1 dg_lt2 dg_ne dg_ne1 dg_ne2 dg_new dg_wen lt_s2 lt_s3 lt_s4 lt_s5 lt_s6

section
variable {ops : Array Oper} {Q : Exit → Act → World → Prop} {a0 : Act} {g PP : Nat} {c : Nat → Nat} {J J' : World → Prop} {F : Nat → Prop} {R : Nat → World → Value → Prop} {i : Nat} {o : Oper}
/-- A call that draws a procedure. -/
theorem ds_prc {B : Nat} {FF : Nat → Prop} {f : FuncId} {vals : (Operand → Value) → Array Value} {good : (Operand → Value) → Prop} (h : ∀ (a : Act) (W : World), (execOp a.eval o).run Tryz.prog W = .ok (.enter f (vals a.eval)) W)
    (hgood : ∀ (a : Act) (w : World), (∀ d, (∀ i, dstOf ops i ≠ some d) → a.eval (.tmp d) = a0.eval (.tmp d)) → (∀ e, e ∈ o.after.toList → Region.binds .any e = true → ∀ d, dstOf ops e.on = some d → R e.on w (a.eval (.tmp d))) → good a.eval)
    (C : ∀ (ρ : Operand → Value) (p : Nat) (w : World), good ρ → RdLe w g p → p + c i ≤ PP → Calls Tryz.prog f (vals ρ) w (RetPrc g (p + c i) w.heap.size w))
    (hJ : ∀ W W', J W → ChgG g W W' → J W') (hFl : ∀ W, J W → ∀ t, FF t → t < W.heap.size) (hB : ∀ W, J W → B ≤ W.heap.size) (hR : ∀ W v, IsX prcCells (XP B FF) W v → R i W v) (hF : F g) : DStep Tryz.prog ops Q a0 g PP c J F R i o := by
  intro a w p hp hJ1 hr hf hd
  refine op_enter (h a w) ?_
  refine Calls.mono (C _ p w (hgood a w hf hd) hr hp) ?_
  rintro e W' ⟨lo, hi, v, is, rfl, ho, hl, hr', hc'⟩
  refine ⟨_, rfl, _, rfl, hR _ _ ⟨(⟨lo, hi, is⟩, v), rfl, owns_mono ho (hB _ hJ1), fun t ht e => ?_, hl⟩, hJ _ _ hJ1 hc', hr', ⟨hc'.os, hc'.tape, hc'.output, hc'.size, fun k hk hn => hc'.block k hk (fun e => hn (e ▸ hF))⟩⟩
  have := hFl _ hJ1 t e
  have := (ho.lt t ht).1
  omega
end

set_option maxRecDepth 100000 in
set_option maxHeartbeats 4000000 in
theorem smallG {g P : Nat} {w : World} (h : RdLe w g P) (hp : P + 4000 ≤ 1099511627776) :
    Calls Tryz.prog 34 #[.pointer (some ⟨g, 0, none⟩)] w (RetPrgO g (P + 1720) w.heap.size w) := by
  have lt0 := h.lt
  obtain ⟨ne0, ne1, ne2, ne3, ne4, ne5⟩ : ¬ w.heap.size = g ∧ ¬ w.heap.size + 1 = g ∧ ¬ w.heap.size + 1 + 1 = g ∧ ¬ w.heap.size + 1 + 1 + 1 = g ∧ ¬ w.heap.size + 1 + 1 + 1 + 1 = g ∧ ¬ w.heap.size + 1 + 1 + 1 + 1 + 1 = g := by omega
  have HP := Lib.hid h; clear h
  go_enter Tryz.func34, Tryz.ntmps34
  go_wp2_with fail
  refine Calls.mono (pickG (k := 3) (P := P) (by (repeat (first | with_reducible assumption | with_reducible exact rd_ext _ | with_reducible exact Hid.out (by assumption) | with_reducible apply rd_al | with_reducible apply rd_drew | (with_reducible apply rd_set; rotate_left; (focus (first | ((repeat (first | with_reducible assumption | omega | with_reducible exact dg_gt _ | (simp only [World.size_alloc, World.size_setCell, World.size_drew]) | with_reducible apply Nat.lt_succ_of_lt | with_reducible apply dg_lt | with_reducible apply le_pl | with_reducible apply dg_le)); done) | assumption | omega | (simp only [World.size_alloc, World.size_setCell, World.size_drew]; first | done | omega | (repeat (first | with_reducible assumption | with_reducible exact dg_gt _ | with_reducible apply Nat.lt_succ_of_lt | with_reducible apply dg_lt | with_reducible apply le_pl | with_reducible apply Nat.le_trans ?_ (dg_size _)))))))))) (by omega) (by omega)) ?_
  rintro e w1 ⟨v, rfl, ⟨u1, rfl, hu1⟩, hr, hc⟩
  have hu1 := hu1 (by omega)
  obtain ⟨N, hN1⟩ : ∃ N : Nat, N = u1 + 1 := ⟨_, rfl⟩
  have wN : IntKind.i64.wrap (1 + (u1 : Int)) = (N : Int) := by rw [show 1 + (u1 : Int) = (N : Int) from by omega]; first | exact IntWalk.i64_in (by omega) (by omega) | exact IntWalk.i64_in _ (by omega) (by omega) | go_unwrap
  have hN : 1 ≤ N ∧ N ≤ 3 := by omega
  have C1 := Lib.hid (ChgG.trans (chg_al (ChgG.refl g w) (.cells Zq 25)) hc)
  have Z1 := Lib.hid ((Blk.new w 25 Zq).chg hc ne0)
  have R1 := Lib.hid hr
  have l1 := hr.lt
  have hz1 := Z1.out.lt
  clear hr hc HP hN1
  obtain ⟨b4, hb4⟩ : ∃ b, w1.heap.size = b := ⟨_, rfl⟩
  have h4 : w.heap.size < b4 := by omega
  have n4 : ¬ b4 = g := by omega
  have nzb : ¬ w.heap.size = b4 := by omega
  have HPC : Hid (PG0 g w b4 0 (w1.alloc (.cells #[.slice none 0 0] 25))) := Lib.hid ⟨chg_al C1.out _, Z1.out.alloc _, .slice none 0 0, [], by subst hb4; exact Blk.new _ _ _, ⟨rfl, World.ownsRow_nil _ _ _ _, fun m hm => nomatch hm⟩, fun m hm => nomatch hm⟩
  have HR1 : Hid (RdLe (w1.alloc (.cells #[.slice none 0 0] 25)) g (P + 1 + 402 * 0)) := Lib.hid (rd_al R1.out _)
  have HB4 := Lib.hid hb4
  clear hb4
  go_wp2
  try simp only [HB4.out]
  go_loopw [5] (fun i wr => ∃ k : Nat, k ≤ N ∧ i = .int .i64 k ∧ PG0 g w b4 k wr ∧ RdLe wr g (P + 1 + 402 * k)) (fun i _ => N - (intOf i).toNat)
  case atStart => exact ⟨0, Nat.zero_le _, rfl, HPC.out, HR1.out⟩
  case round =>
    clear HPC HR1 C1 Z1 R1 HB4
    obtain ⟨k, hk, rfl, hPG, hR⟩ := hrel
    by_cases hlt : k < N
    · have HPG := Lib.hid hPG
      have HR := Lib.hid hR
      clear hPG hR
      go_wp2_with fail
      refine Calls.mono (pickG (k := 3) HR.out (by omega) (by omega)) ?_
      rintro e w2 ⟨v, rfl, ⟨s, rfl, hs⟩, hr2, hc2⟩
      obtain ⟨hC, hZ, v, ms, hB, hO, hM⟩ := HPG.out
      obtain ⟨a, cap, rfl⟩ := owns_slice hO.2.1
      have HC := Lib.hid (hC.trans hc2)
      have HZ := Lib.hid (hZ.chg hc2 ne0)
      have HB := Lib.hid (hB.chg hc2 n4)
      have HO : Hid (OwnP w2 w.heap.size (.slice a k cap) k ms) := Lib.hid ⟨hO.1, owns_chg hO.2.1 hc2 (fun b hb e => by have := (hO.2.1.lt b hb).1; omega), fun m hm => owns_chg (hO.2.2 m hm) hc2 (fun b hb e => by have := ((hO.2.2 m hm).lt b hb).1; omega)⟩
      have HM := Lib.hid hM
      have HR2 := Lib.hid hr2
      clear hC hZ hB hO hM hc2 hr2 HPG HR
      have hPP : P + 1 + 402 * k + 1 + 401 ≤ 1099511627776 := by omega
      obtain ⟨FF, hFFe⟩ : ∃ FF : Nat → Prop, FF = fun t => t = g ∨ t = b4 ∨ t = w.heap.size ∨ (Value.slice a k cap).ownBlock = some t := ⟨_, rfl⟩
      have hFF : ∀ b, (b = g ∨ b = b4 ∨ b = w.heap.size) → FF b := fun b hb => by
        rw [hFFe]
        rcases hb with h | h | h
        · exact .inl h
        · exact .inr (.inl h)
        · exact .inr (.inr (.inl h))
      have hFA : ∀ b, (Value.slice a k cap).ownBlock = some b → FF b := fun b hb => by rw [hFFe]; exact .inr (.inr (.inr hb))
      have hFl : ∀ b W, JG g w b4 k FF ms a cap b W → ∀ t, FF t → t < W.heap.size := fun b W h t ht => by rw [hFFe] at ht; exact h.fl lt0 t ht
      have hJC : ∀ b W W', JG g w b4 k FF ms a cap b W → ChgG g W W' → JG g w b4 k FF ms a cap b W' := fun b W W' h c => h.cg c lt0 n4 (hFF g (.inl rfl))
      have hJA : ∀ b W o, JG g w b4 k FF ms a cap b W → JG g w b4 k FF ms a cap b (W.alloc o) := fun b W o h => h.cg (ChgG.of_grew (grew_al (Below.refl _ _) _)) lt0 n4 (hFF g (.inl rfl))
      have hXP : ∀ m, m ∈ ms → XP w.heap.size FF w2 m := fun m hm => ⟨HO.out.2.2 m hm, fun t ht e => by
        have h1 := ((HO.out.2.2 m hm).lt t ht).1
        rw [hFFe] at e
        rcases e with rfl | rfl | rfl | e
        · omega
        · exact blk_ne HB.out (HO.out.2.2 m hm) (by decide) ht
        · exact blk_ne HZ.out (HO.out.2.2 m hm) (by decide) ht
        · exact row_row_ne (HO.out.2.2 m hm) HO.out.2.1 (by decide) ht e, HM.out m hm⟩
      have hX : ∀ W W' (x : Prc × Value), Chg (fun b => b = g ∨ b = b4 ∨ b = w.heap.size) W W' → XP w.heap.size FF W x → XP w.heap.size FF W' x := fun _ _ _ c h => h.chg c hFF
      have hXA : ∀ W W' (x : Prc × Value), Chg (fun b => (Value.slice a k cap).ownBlock = some b) W W' → XP w.heap.size FF W x → XP w.heap.size FF W' x := fun _ _ _ c h => h.chg c hFA
      have hXn : ∀ W o (x : Prc × Value), XP w.heap.size FF W x → XP w.heap.size FF (W.alloc o) x := fun W o x h => h.chg (G := fun _ => False) (Chg.of_below (grew_al (Below.refl _ _) _)) (fun _ e => e.elim)
      have hJ0 : JG g w b4 k FF ms a cap false w2.drew := ⟨chg_drew HC.out, HZ.out.grew (grew_d (Below.refl _ _)), HB.out.grew (grew_d (Below.refl _ _)), fun _ => owns_grew HO.out.2.1 (grew_d (Below.refl _ _)), fun t ht => ⟨(HO.out.2.1.lt t ht).1, (HO.out.2.1.lt t ht).2, fun e => blk_ne HB.out HO.out.2.1 (by decide) (e ▸ ht), fun e => blk_ne HZ.out HO.out.2.1 (by decide) (e ▸ ht)⟩, fun m hm => (hXP m hm).chg (G := fun _ => False) (Chg.of_below (grew_d (Below.refl _ _))) (fun _ e => e.elim)⟩
      clear hFFe hXP
      by_cases hs0 : s = 0
      · subst hs0
        go_wp2_with fail
        refine region_drawA g (P + 1 + 402 * k + 1) 401 48 9 11 13 [0, 0, 0, 0, 0, 0, 1, 400, 0, 0, 0, 0] (JG g w b4 k FF ms a cap) (PG0 g w b4 (k + 1)) (fun b => b = g ∨ b = b4 ∨ b = w.heap.size) (fun b => (Value.slice a k cap).ownBlock = some b)
          [prV (fun v => v = .pointer (some ⟨b4, 0, none⟩)), prV (fun v => v = .slice a k cap), prV (fun v => v = .pointer (some ⟨g, 0, none⟩)), prV (fun v => v = .int .i64 k), prV (fun v => v = .pointer (some ⟨g, 0, none⟩)), prV (fun v => v = .int .i64 N), prV (IsNat N), prIsX prcCells (XP w.heap.size FF) hX, prOneX 63 prcCells (XP w.heap.size FF) FF (fun b hb => hFF b hb) hX, prNewX 63 3 prcCells (XP w.heap.size FF) w.heap.size k ms hX, prV (fun v => v = .pointer (some ⟨b4, 0, none⟩)), prT]
          (by kernel_rfl) rfl (by kernel_rfl) (by kernel_rfl) (by kernel_rfl) (by decide) (by decide) (by kernel_rfl) ?_ hJ0 HR2.out ⟨?_, ?_, ?_, ?_, ?_, ?_, ?_, ?_, ?_, ?_, ?_, ?_, trivial⟩ ?_
        · intro j W W' u hj hc hu
          rcases j with _ | _ | _ | _ | _ | _ | _ | _ | _ | _ | _ | _ | j
          all_goals first | exact hu | exact absurd rfl hj | exact OneX.chg hu hc hFA (fun x => hXA W W' x hc) | skip
          obtain ⟨x, h1, h2⟩ := hu
          exact ⟨x, h1, hXA _ _ _ hc h2⟩
        · refine ⟨fun _ _ b => ?_, (fun h => by cases h), (fun h => by cases h)⟩
          exact ds_field 4 0 _ _ rfl (by kernel_rfl) rfl (fun W => by kernel_rfl) (fun _ => rfl)
        · refine ⟨fun _ _ b => ?_, (fun h => by cases h), (fun h => by cases h)⟩
          exact ds_run (.slice a k cap) (fun A W hJ hf hd => by
              have e0 : A.eval (.tmp 18) = .pointer (some ⟨b4, 0, none⟩) := dep_of (k := 0) (d := 18) ⟨⟨⟨0, .data⟩, by simp, rfl, by kernel_rfl⟩, by kernel_rfl⟩ hd
              have c2 : W.cell? ⟨b4, 0, none⟩ = some (.slice a k cap) := hJ.2.2.1.cell 0
              simp only [execOp, e0]
              simp [go_sem, c2]) (fun _ => rfl)
        · refine ⟨fun _ _ b => ?_, (fun h => by cases h), (fun h => by cases h)⟩
          exact ds_move 0 _ rfl (by kernel_rfl) rfl (fun _ => rfl)
        · refine ⟨fun _ _ b => ?_, (fun h => by cases h), (fun h => by cases h)⟩
          exact ds_move 5 _ rfl (by kernel_rfl) rfl (fun _ => rfl)
        · refine ⟨fun _ _ b => ?_, (fun h => by cases h), (fun h => by cases h)⟩
          exact ds_move 0 _ rfl (by kernel_rfl) rfl (fun _ => rfl)
        · refine ⟨fun _ _ b => ?_, (fun h => by cases h), (fun h => by cases h)⟩
          exact ds_move 3 _ rfl (by kernel_rfl) rfl (fun _ => rfl)
        · refine ⟨fun _ _ b => ?_, (fun h => by cases h), (fun h => by cases h)⟩
          exact ds_pickV 22 23 4 5 N (fun _ _ => by kernel_rfl) ⟨⟨⟨4, .data⟩, by simp, rfl, by kernel_rfl⟩, by kernel_rfl⟩ ⟨⟨⟨5, .data⟩, by simp, rfl, by kernel_rfl⟩, by kernel_rfl⟩ (fun _ _ h => h) (fun _ _ h => h) rfl hPP (by omega) (fun _ _ h => h) (hJC b) (.inl rfl)
        · refine ⟨fun _ _ b => ?_, (fun h => by cases h), (fun h => by cases h)⟩
          exact ds_prc (B := w.heap.size) (FF := FF) (f := 53) (vals := fun ρ => #[ρ (.tmp 20), ρ (.tmp 21), ρ (.tmp 24)]) (good := fun ρ => ρ (.tmp 20) = .pointer (some ⟨g, 0, none⟩) ∧ ρ (.tmp 21) = .int .i64 k ∧ IsInt (ρ (.tmp 24))) (fun _ _ => by kernel_rfl) (fun a w hf hd => ⟨dep_of (k := 2) (d := 20) ⟨⟨⟨2, .data⟩, by simp, rfl, by kernel_rfl⟩, by kernel_rfl⟩ hd, dep_of (k := 3) (d := 21) ⟨⟨⟨3, .data⟩, by simp, rfl, by kernel_rfl⟩, by kernel_rfl⟩ hd, isInt_of_nat (dep_of (k := 6) (d := 24) ⟨⟨⟨6, .data⟩, by simp, rfl, by kernel_rfl⟩, by kernel_rfl⟩ hd : IsNat _ _)⟩) (fun ρ p w hg hr hp => by
              obtain ⟨h1, h2, o, h3⟩ := hg
              rw [h1, h2, h3]
              exact deepG hr (by simp only [cOf, List.getD_cons_succ, List.getD_cons_zero] at hp; omega)) (hJC b) (hFl b) (fun W h => h.1.size) (fun _ _ h => h) (.inl rfl)
        · refine ⟨fun _ _ b => ?_, (fun h => by cases h), (fun h => by cases h)⟩
          exact ds_oneX (f := prcCells) (X := XP w.heap.size FF) FF 25 7 rfl ⟨⟨⟨7, .data⟩, by simp, rfl, by kernel_rfl⟩, by kernel_rfl⟩ (fun _ _ h => h) (fun x W => by kernel_rfl) hXn (fun _ _ h => h) (hJA b) (hFl b)
        · refine ⟨fun _ h => absurd rfl h, fun _ => ?_, (fun h => by cases h)⟩
          exact ds_appendX (f := prcCells) (X := XP w.heap.size FF) FF 19 1 26 8 prcEl prc_len (fun _ x hx u hu => prc_one x u hu (by obtain ⟨a, cp, e⟩ := owns_slice hx.1; rw [e]; rfl)) rfl rfl rfl ⟨⟨⟨1, .data⟩, by simp, rfl, by kernel_rfl⟩, by kernel_rfl⟩ ⟨⟨⟨8, .data⟩, by simp, rfl, by kernel_rfl⟩, by kernel_rfl⟩ (fun _ _ h => h) (fun _ _ h => h) (by omega) (by omega) hXA (fun W h => ⟨h.2.2.2.1 rfl, h.1.size⟩) (fun W h => h.fn lt0) lt0 (fun _ _ h => h) (fun W W' h c => h.ap c hFA)
        · refine ⟨fun _ _ b => ?_, (fun h => by cases h), (fun h => by cases h)⟩
          exact ds_field 4 0 _ _ rfl (by kernel_rfl) rfl (fun W => by kernel_rfl) (fun _ => rfl)
        · refine ⟨fun h => absurd rfl h, (fun h => by cases h), fun _ => ?_⟩
          refine ds_storeX (f := prcCells) (X := XP w.heap.size FF) b4 0 25 #[.slice a k cap] 28 10 27 9 rfl ⟨⟨⟨10, .data⟩, by simp, rfl, by kernel_rfl⟩, by kernel_rfl⟩ ⟨⟨⟨9, .data⟩, by simp, rfl, by kernel_rfl⟩, by kernel_rfl⟩ (fun A W a n cp y e1 e2 h c f => by
                  obtain ⟨_, _, _, e⟩ := h
                  subst e
                  simp only [execOp, e1, e2]
                  simp [go_sem, c, f]) (fun _ _ h => h) (fun _ _ h => h) (fun W h => h.2.2.1) ⟨_, _, _, rfl⟩ (fun W v h hn hb hne => ?_) (by omega) (.inr (.inl rfl)) (fun _ _ => trivial)
          obtain ⟨a5, cap5, x, rfl, hown, hn5, hx⟩ := hn
          have hch : Chg (fun b => b = b4) W (W.setCell ⟨b4, 0, none⟩ (.slice a5 (k + 1) cap5)) := chg1 (Chg.refl _ _) _
          have hms : ∀ m, m ∈ ms ++ [x] → XP w.heap.size FF (W.setCell ⟨b4, 0, none⟩ (.slice a5 (k + 1) cap5)) m := fun m hm => by
            rcases List.mem_append.1 hm with hm | hm
            · exact (h.2.2.2.2.2 m hm).chg hch (fun t e => hFF t (.inr (.inl e)))
            · obtain rfl := List.mem_singleton.1 hm
              exact hx.chg hch (fun t e => hFF t (.inr (.inl e)))
          exact ⟨chg_set h.1 (by simp only; omega) _, h.2.1.far (by simp only; omega) _, _, ms ++ [x], hb, ⟨by rw [List.length_append, HO.out.1]; rfl, owns_far hown hne _, fun m hm => (hms m hm).1⟩, fun m hm => (hms m hm).2.2⟩
        · rintro vs w5 hJ1 hP hR
          have HI := Lib.hid hJ1
          have HP5 : Hid (RdLe w5 g (P + 1 + 402 * (k + 1))) := Lib.hid (hP.mono (by omega))
          clear hR hJ1 hP hJ0 hX hXA hXn hFl hFA hFF FF hJA hJC hPP
          simp only [putAll, Act.put, List.setIfInBounds_toArray, List.set_cons_zero, List.set_cons_succ]
          go_wp2
          go_roundw
          case rel => exact ⟨k + 1, by omega, by go_num, HI.out, HP5.out⟩
          case measure => (simp [intOf]; try omega)
      · have q0 : ((s : Int) == 0) = false := by simp; omega
        have hPP : P + 1 + 402 * k + 1 + 400 ≤ 1099511627776 := by omega
        go_wp2_with fail
        refine region_drawA g (P + 1 + 402 * k + 1) 400 48 6 8 10 [0, 0, 0, 0, 400, 0, 0, 0, 0] (JG g w b4 k FF ms a cap) (PG0 g w b4 (k + 1)) (fun b => b = g ∨ b = b4 ∨ b = w.heap.size) (fun b => (Value.slice a k cap).ownBlock = some b)
          [prV (fun v => v = .pointer (some ⟨b4, 0, none⟩)), prV (fun v => v = .slice a k cap), prV (fun v => v = .pointer (some ⟨g, 0, none⟩)), prV (fun v => v = .int .i64 N), prIsX prcCells (XP w.heap.size FF) hX, prOneX 63 prcCells (XP w.heap.size FF) FF (fun b hb => hFF b hb) hX, prNewX 63 3 prcCells (XP w.heap.size FF) w.heap.size k ms hX, prV (fun v => v = .pointer (some ⟨b4, 0, none⟩)), prT]
          (by kernel_rfl) rfl (by kernel_rfl) (by kernel_rfl) (by kernel_rfl) (by decide) (by decide) (by kernel_rfl) ?_ hJ0 HR2.out ⟨?_, ?_, ?_, ?_, ?_, ?_, ?_, ?_, ?_, trivial⟩ ?_
        · intro j W W' u hj hc hu
          rcases j with _ | _ | _ | _ | _ | _ | _ | _ | _ | j
          all_goals first | exact hu | exact absurd rfl hj | exact OneX.chg hu hc hFA (fun x => hXA W W' x hc) | skip
          obtain ⟨x, h1, h2⟩ := hu
          exact ⟨x, h1, hXA _ _ _ hc h2⟩
        · refine ⟨fun _ _ b => ?_, (fun h => by cases h), (fun h => by cases h)⟩
          exact ds_field 4 0 _ _ rfl (by kernel_rfl) rfl (fun W => by kernel_rfl) (fun _ => rfl)
        · refine ⟨fun _ _ b => ?_, (fun h => by cases h), (fun h => by cases h)⟩
          exact ds_run (.slice a k cap) (fun A W hJ hf hd => by
              have e0 : A.eval (.tmp 29) = .pointer (some ⟨b4, 0, none⟩) := dep_of (k := 0) (d := 29) ⟨⟨⟨0, .data⟩, by simp, rfl, by kernel_rfl⟩, by kernel_rfl⟩ hd
              have c2 : W.cell? ⟨b4, 0, none⟩ = some (.slice a k cap) := hJ.2.2.1.cell 0
              simp only [execOp, e0]
              simp [go_sem, c2]) (fun _ => rfl)
        · refine ⟨fun _ _ b => ?_, (fun h => by cases h), (fun h => by cases h)⟩
          exact ds_move 0 _ rfl (by kernel_rfl) rfl (fun _ => rfl)
        · refine ⟨fun _ _ b => ?_, (fun h => by cases h), (fun h => by cases h)⟩
          exact ds_move 3 _ rfl (by kernel_rfl) rfl (fun _ => rfl)
        · refine ⟨fun _ _ b => ?_, (fun h => by cases h), (fun h => by cases h)⟩
          exact ds_prc (B := w.heap.size) (FF := FF) (f := 54) (vals := fun ρ => #[ρ (.tmp 31), ρ (.tmp 32)]) (good := fun ρ => ρ (.tmp 31) = .pointer (some ⟨g, 0, none⟩) ∧ ρ (.tmp 32) = .int .i64 N) (fun _ _ => by kernel_rfl) (fun a w hf hd => ⟨dep_of (k := 2) (d := 31) ⟨⟨⟨2, .data⟩, by simp, rfl, by kernel_rfl⟩, by kernel_rfl⟩ hd, dep_of (k := 3) (d := 32) ⟨⟨⟨3, .data⟩, by simp, rfl, by kernel_rfl⟩, by kernel_rfl⟩ hd⟩) (fun ρ p w hg hr hp => by
              obtain ⟨h1, h2⟩ := hg
              rw [h1, h2]
              exact callsG hr (by simp only [cOf, List.getD_cons_succ, List.getD_cons_zero] at hp; omega) (by omega)) (hJC b) (hFl b) (fun W h => h.1.size) (fun _ _ h => h) (.inl rfl)
        · refine ⟨fun _ _ b => ?_, (fun h => by cases h), (fun h => by cases h)⟩
          exact ds_oneX (f := prcCells) (X := XP w.heap.size FF) FF 33 4 rfl ⟨⟨⟨4, .data⟩, by simp, rfl, by kernel_rfl⟩, by kernel_rfl⟩ (fun _ _ h => h) (fun x W => by kernel_rfl) hXn (fun _ _ h => h) (hJA b) (hFl b)
        · refine ⟨fun _ h => absurd rfl h, fun _ => ?_, (fun h => by cases h)⟩
          exact ds_appendX (f := prcCells) (X := XP w.heap.size FF) FF 30 1 34 5 prcEl prc_len (fun _ x hx u hu => prc_one x u hu (by obtain ⟨a, cp, e⟩ := owns_slice hx.1; rw [e]; rfl)) rfl rfl rfl ⟨⟨⟨1, .data⟩, by simp, rfl, by kernel_rfl⟩, by kernel_rfl⟩ ⟨⟨⟨5, .data⟩, by simp, rfl, by kernel_rfl⟩, by kernel_rfl⟩ (fun _ _ h => h) (fun _ _ h => h) (by omega) (by omega) hXA (fun W h => ⟨h.2.2.2.1 rfl, h.1.size⟩) (fun W h => h.fn lt0) lt0 (fun _ _ h => h) (fun W W' h c => h.ap c hFA)
        · refine ⟨fun _ _ b => ?_, (fun h => by cases h), (fun h => by cases h)⟩
          exact ds_field 4 0 _ _ rfl (by kernel_rfl) rfl (fun W => by kernel_rfl) (fun _ => rfl)
        · refine ⟨fun h => absurd rfl h, (fun h => by cases h), fun _ => ?_⟩
          refine ds_storeX (f := prcCells) (X := XP w.heap.size FF) b4 0 25 #[.slice a k cap] 36 7 35 6 rfl ⟨⟨⟨7, .data⟩, by simp, rfl, by kernel_rfl⟩, by kernel_rfl⟩ ⟨⟨⟨6, .data⟩, by simp, rfl, by kernel_rfl⟩, by kernel_rfl⟩ (fun A W a n cp y e1 e2 h c f => by
                  obtain ⟨_, _, _, e⟩ := h
                  subst e
                  simp only [execOp, e1, e2]
                  simp [go_sem, c, f]) (fun _ _ h => h) (fun _ _ h => h) (fun W h => h.2.2.1) ⟨_, _, _, rfl⟩ (fun W v h hn hb hne => ?_) (by omega) (.inr (.inl rfl)) (fun _ _ => trivial)
          obtain ⟨a5, cap5, x, rfl, hown, hn5, hx⟩ := hn
          have hch : Chg (fun b => b = b4) W (W.setCell ⟨b4, 0, none⟩ (.slice a5 (k + 1) cap5)) := chg1 (Chg.refl _ _) _
          have hms : ∀ m, m ∈ ms ++ [x] → XP w.heap.size FF (W.setCell ⟨b4, 0, none⟩ (.slice a5 (k + 1) cap5)) m := fun m hm => by
            rcases List.mem_append.1 hm with hm | hm
            · exact (h.2.2.2.2.2 m hm).chg hch (fun t e => hFF t (.inr (.inl e)))
            · obtain rfl := List.mem_singleton.1 hm
              exact hx.chg hch (fun t e => hFF t (.inr (.inl e)))
          exact ⟨chg_set h.1 (by simp only; omega) _, h.2.1.far (by simp only; omega) _, _, ms ++ [x], hb, ⟨by rw [List.length_append, HO.out.1]; rfl, owns_far hown hne _, fun m hm => (hms m hm).1⟩, fun m hm => (hms m hm).2.2⟩
        · rintro vs w5 hJ1 hP hR
          have HI := Lib.hid hJ1
          have HP5 : Hid (RdLe w5 g (P + 1 + 402 * (k + 1))) := Lib.hid (hP.mono (by omega))
          clear hR hJ1 hP hJ0 hX hXA hXn hFl hFA hFF FF hJA hJC hPP
          simp only [putAll, Act.put, List.setIfInBounds_toArray, List.set_cons_zero, List.set_cons_succ]
          go_wp2
          go_roundw
          case rel => exact ⟨k + 1, by omega, by go_num, HI.out, HP5.out⟩
          case measure => (simp [intOf]; try omega)
    · obtain rfl : k = N := by omega
      obtain ⟨hC, hZ, v, ms, hB, hO, hM⟩ := hPG
      obtain ⟨a, cap, rfl⟩ := owns_slice hO.2.1
      obtain ⟨br, rfl⟩ := own_shape hO.2.1 (by omega)
      have HC := Lib.hid hC
      have HZ := Lib.hid hZ
      have HB := Lib.hid hB
      have HO := Lib.hid hO
      have HM := Lib.hid hM
      have HR := Lib.hid hR
      clear hC hZ hB hO hM hR
      go_wp2_with fail
      refine Calls.mono (pickG (k := 2) HR.out (by omega) (by omega)) ?_
      rintro e w2 ⟨v, rfl, ⟨s, rfl, hs⟩, hr2, hc2⟩
      have HC2 := Lib.hid (HC.out.trans hc2)
      have HZ2 := Lib.hid (HZ.out.chg hc2 ne0)
      have HB2 := Lib.hid (HB.out.chg hc2 n4)
      have HO2 : Hid (OwnP w2 w.heap.size (.slice (some ⟨br, 0, none⟩) k cap) k ms) := Lib.hid ⟨HO.out.1, owns_chg HO.out.2.1 hc2 (fun b hb e => by have := (HO.out.2.1.lt b hb).1; omega), fun m hm => owns_chg (HO.out.2.2 m hm) hc2 (fun b hb e => by have := ((HO.out.2.2 m hm).lt b hb).1; omega)⟩
      have HR2 := Lib.hid hr2
      have hbr := HO2.out.2.1.lt br rfl
      clear hc2 hr2 HC HZ HB HO HR
      by_cases hs0 : s = 0
      · subst hs0
        have c60 : w2.cell? ⟨b4, 0, none⟩ = some (.slice (some ⟨br, 0, none⟩) k cap) := HB2.out.cell 0
        obtain ⟨L, hL⟩ : ∃ L : Nat, k = L + 1 := ⟨k - 1, by omega⟩
        have hLw : IntKind.i64.wrap ((k : Int) - 1) = (L : Int) := by rw [show (k : Int) - 1 = (L : Int) from by omega]; first | exact IntWalk.i64_in (by omega) (by omega) | exact IntWalk.i64_in _ (by omega) (by omega) | go_unwrap
        have hLk : L < k := by omega
        have HHL := Lib.hid hL
        clear hL
        go_wp2_with fail
        have hJC : ∀ W W', (PG0 g w b4 k W ∧ Blk W b4 25 #[.slice (some ⟨br, 0, none⟩) k cap] ∧ OwnP W w.heap.size (.slice (some ⟨br, 0, none⟩) k cap) k ms) → ChgG g W W' → (PG0 g w b4 k W' ∧ Blk W' b4 25 #[.slice (some ⟨br, 0, none⟩) k cap] ∧ OwnP W' w.heap.size (.slice (some ⟨br, 0, none⟩) k cap) k ms) := fun W W' h c => by
          have hO' : OwnP W' w.heap.size (.slice (some ⟨br, 0, none⟩) k cap) k ms := ⟨h.2.2.1, owns_chg h.2.2.2.1 c (fun b hb e => by have := (h.2.2.2.1.lt b hb).1; omega), fun m hm => owns_chg (h.2.2.2.2 m hm) c (fun b hb e => by have := ((h.2.2.2.2 m hm).lt b hb).1; omega)⟩
          exact ⟨⟨h.1.1.trans c, h.1.2.1.chg c ne0, _, ms, h.2.1.chg c n4, hO', HM.out⟩, h.2.1.chg c n4, hO'⟩
        have hX : ∀ W W' (x : Prc × Value), Chg (fun b => b = g ∨ b = br) W W' → XP w.heap.size (fun b => b = g ∨ b = br) W x → XP w.heap.size (fun b => b = g ∨ b = br) W' x := fun _ _ _ c h => h.chg c (fun _ e => e)
        refine region_drawE g (P + 1 + 402 * k + 1) 400 48 7 8 [0, 0, 0, 0, 0, 400, 0, 0] (fun W => PG0 g w b4 k W ∧ Blk W b4 25 #[.slice (some ⟨br, 0, none⟩) k cap] ∧ OwnP W w.heap.size (.slice (some ⟨br, 0, none⟩) k cap) k ms) (PG0 g w b4 k) (fun b => b = g ∨ b = br)
          [prV (fun v => v = .pointer (some ⟨b4, 0, none⟩)), prV (fun v => v = .slice (some ⟨br, 0, none⟩) k cap), prV (fun v => v = .int .i64 k), prV (fun v => v = .int .i64 L), prV (fun v => v = .pointer (some ⟨g, 0, none⟩)), prIsX prcCells (XP w.heap.size (fun b => b = g ∨ b = br)) hX, prV (fun v => v = .pointer (some ⟨br, L * 3, none⟩)), prT]
          (by kernel_rfl) rfl (by kernel_rfl) (by kernel_rfl) (by kernel_rfl) (by decide) (hJC _ _ ⟨⟨HC2.out, HZ2.out, _, ms, HB2.out, HO2.out, HM.out⟩, HB2.out, HO2.out⟩ (ChgG.of_grew (grew_d (Below.refl _ _)))) HR2.out ⟨?_, ?_, ?_, ?_, ?_, ?_, ?_, ?_, trivial⟩ ?_
        · refine ⟨fun _ => ?_, (fun h => by cases h)⟩
          exact ds_field 4 0 _ _ rfl (by kernel_rfl) rfl (fun W => by kernel_rfl) (fun _ => rfl)
        · refine ⟨fun _ => ?_, (fun h => by cases h)⟩
          exact ds_run (.slice (some ⟨br, 0, none⟩) k cap) (fun A W hJ hf hd => by
            have e0 : A.eval (.tmp 40) = .pointer (some ⟨b4, 0, none⟩) := dep_of (k := 0) (d := 40) ⟨⟨⟨0, .data⟩, by simp, rfl, by kernel_rfl⟩, by kernel_rfl⟩ hd
            have c2 : W.cell? ⟨b4, 0, none⟩ = some (.slice (some ⟨br, 0, none⟩) k cap) := hJ.2.1.cell 0
            simp only [execOp, e0]
            simp [go_sem, c2]) (fun _ => rfl)
        · refine ⟨fun _ => ?_, (fun h => by cases h)⟩
          exact ds_move 3 _ rfl (by kernel_rfl) rfl (fun _ => rfl)
        · refine ⟨fun _ => ?_, (fun h => by cases h)⟩
          exact ds_run (.int .i64 L) (fun A W hJ hf hd => by
            have e0 : A.eval (.tmp 42) = .int .i64 k := dep_of (k := 2) (d := 42) ⟨⟨⟨2, .data⟩, by simp, rfl, by kernel_rfl⟩, by kernel_rfl⟩ hd
            simp only [execOp, e0, eval_const]
            simp [go_sem, hLw]) (fun _ => rfl)
        · refine ⟨fun _ => ?_, (fun h => by cases h)⟩
          exact ds_move 0 _ rfl (by kernel_rfl) rfl (fun _ => rfl)
        · refine ⟨fun _ => ?_, (fun h => by cases h)⟩
          exact ds_prc (B := w.heap.size) (FF := fun b => b = g ∨ b = br) (f := 55) (vals := fun ρ => #[ρ (.tmp 44)]) (good := fun ρ => ρ (.tmp 44) = .pointer (some ⟨g, 0, none⟩)) (fun _ _ => by kernel_rfl) (fun a w hf hd => dep_of (k := 4) (d := 44) ⟨⟨⟨4, .data⟩, by simp, rfl, by kernel_rfl⟩, by kernel_rfl⟩ hd) (fun ρ p w hg hr hp => by
            rw [hg]
            exact loopG hr (by simp only [cOf, List.getD_cons_succ, List.getD_cons_zero] at hp; omega)) hJC (fun W h t ht => by
            have h1 := h.1.1.size
            have h2 := (h.2.2.2.1.lt br rfl).2
            rcases ht with rfl | rfl
            · omega
            · exact h2) (fun W h => h.1.1.size) (fun _ _ h => h) (.inl rfl)
        · refine ⟨fun _ => ?_, (fun h => by cases h)⟩
          exact ds_run (.pointer (some ⟨br, L * 3, none⟩)) (fun A W hJ hf hd => by
            have e0 : A.eval (.tmp 41) = .slice (some ⟨br, 0, none⟩) k cap := dep_of (k := 1) (d := 41) ⟨⟨⟨1, .data⟩, by simp, rfl, by kernel_rfl⟩, by kernel_rfl⟩ hd
            have e1 : A.eval (.tmp 43) = .int .i64 L := dep_of (k := 3) (d := 43) ⟨⟨⟨3, .data⟩, by simp, rfl, by kernel_rfl⟩, by kernel_rfl⟩ hd
            simp only [execOp, e0, e1]
            simp [go_sem, hLk]) (fun _ => rfl)
        · refine ⟨fun h => absurd rfl h, fun _ => ?_⟩
          intro A W p hp2 hJ hr hf hd
          have e0 : A.eval (.tmp 46) = .pointer (some ⟨br, L * 3, none⟩) := dep_of (k := 6) (d := 46) ⟨⟨⟨6, .data⟩, by simp, rfl, by kernel_rfl⟩, by kernel_rfl⟩ hd
          obtain ⟨⟨⟨lo, hi, is⟩, cv⟩, e1, hx⟩ : IsX prcCells (XP w.heap.size (fun b => b = g ∨ b = br)) W (A.eval (.tmp 45)) := dep_of (k := 5) (d := 45) ⟨⟨⟨5, .data⟩, by simp, rfl, by kernel_rfl⟩, by kernel_rfl⟩ hd
          obtain ⟨m, hmL, r0, r1, r2⟩ := cellR hJ.2.2 hLk
          obtain ⟨ca, cc, hcv⟩ := owns_slice hx.1
          simp only at hcv
          subst hcv
          obtain ⟨ma, mc, hmc⟩ := owns_slice (hJ.2.2.2.2 m (List.mem_of_getElem? hmL))
          rw [hmc] at r2
          have fz := fun j => hJ.2.2.2.1.frozenAt j
          have hlt3 := hJ.2.2.2.1.lt br rfl
          have hb4r : b4 ≠ br := blk_row hJ.2.1 hJ.2.2.2.1 (by decide)
          have hzr : w.heap.size ≠ br := blk_row hJ.1.2.1 hJ.2.2.2.1 (by decide)
          have hch : Chg (fun b => b = br) W (((W.setCell ⟨br, L * 3, none⟩ (.int .i64 lo)).setCell ⟨br, L * 3 + 1, none⟩ (.int .i64 hi)).setCell ⟨br, L * 3 + 2, none⟩ (.slice ca is.length cc)) := chg1 (chg1 (chg1 (Chg.refl _ _) _) _) _
          refine op_skip (w' := ((W.setCell ⟨br, L * 3, none⟩ (.int .i64 lo)).setCell ⟨br, L * 3 + 1, none⟩ (.int .i64 hi)).setCell ⟨br, L * 3 + 2, none⟩ (.slice ca is.length cc)) ?_ ⟨_, rfl, trivial, ⟨chg_set (chg_set (chg_set hJ.1.1 hlt3.1 _) hlt3.1 _) hlt3.1 _, ((hJ.1.2.1.far (p := ⟨br, L * 3, none⟩) hzr _).far (p := ⟨br, L * 3 + 1, none⟩) hzr _).far (p := ⟨br, L * 3 + 2, none⟩) hzr _, _, ms.set L (⟨lo, hi, is⟩, .slice ca is.length cc), ((hJ.2.1.far (p := ⟨br, L * 3, none⟩) hb4r _).far (p := ⟨br, L * 3 + 1, none⟩) hb4r _).far (p := ⟨br, L * 3 + 2, none⟩) hb4r _, hJ.2.2.set3 hLk hx.1, fun q hq => ?_⟩, (hr.chg hch (fun b hb e => by omega)).mono (by omega), ⟨hch.os, hch.tape, hch.output, hch.size, fun k hk hn => hch.block k hk (fun e => hn (.inr e))⟩⟩
          · simp only [execOp, e0, e1]
            simp [go_sem, prcCells, fz, r0, r1, r2]
          · rcases List.mem_or_eq_of_mem_set hq with hq | rfl
            · exact HM.out q hq
            · exact hx.2.2
        · rintro vs w5 hJ1 hP hR
          have HI := Lib.hid hJ1
          have HP5 : Hid (RdLe w5 g (P + 1 + 402 * k + 1 + 400)) := Lib.hid hP
          clear hR hJ1 hP hX hJC
          clear c60
          simp only [putAll, Act.put, List.setIfInBounds_toArray, List.set_cons_zero, List.set_cons_succ]
          obtain ⟨hC, hZ, v, ms', hB, hO, hM⟩ := HI.out
          obtain ⟨a', cp', rfl⟩ := owns_slice hO.2.1
          have c60 : w5.cell? ⟨b4, 0, none⟩ = some (.slice a' k cp') := hB.cell 0
          have bl := hB.lt
          have z0 : w5.cell? ⟨w.heap.size, 0, none⟩ = some (.slice none 0 0) := hZ.cell 0
          have zf := fun j => hZ.frozen j
          have zl := hZ.lt
          have HC3 := Lib.hid hC
          have HZ3 := Lib.hid hZ
          have HO3 := Lib.hid hO
          have HM3 := Lib.hid hM
          clear hC hZ hB hO hM HI
          go_wp2
          refine bodyPost_ret (by simp [results, Tryz.results34, go_sem, z0, zl]; try rfl) rfl ?_
          refine ⟨_, _, ms', rfl, HO3.out.far HZ3.out (by decide) (by decide) _ _, by omega, fun m hm => (HM3.out m hm).2, ?_, ?_⟩
          · exact (rd_set HP5.out (by simp only; omega) _).mono (by omega)
          · exact chg_set HC3.out (Nat.le_refl _) _
      · have q0 : ((s : Int) == 0) = false := by simp; omega
        have HI : Hid (PG0 g w b4 k w2) := Lib.hid ⟨HC2.out, HZ2.out, _, ms, HB2.out, HO2.out, HM.out⟩
        have HP5 := HR2
        obtain ⟨hC, hZ, v, ms', hB, hO, hM⟩ := HI.out
        obtain ⟨a', cp', rfl⟩ := owns_slice hO.2.1
        have c60 : w2.cell? ⟨b4, 0, none⟩ = some (.slice a' k cp') := hB.cell 0
        have bl := hB.lt
        have z0 : w2.cell? ⟨w.heap.size, 0, none⟩ = some (.slice none 0 0) := hZ.cell 0
        have zf := fun j => hZ.frozen j
        have zl := hZ.lt
        have HC3 := Lib.hid hC
        have HZ3 := Lib.hid hZ
        have HO3 := Lib.hid hO
        have HM3 := Lib.hid hM
        clear hC hZ hB hO hM HI
        go_wp2
        refine bodyPost_ret (by simp [results, Tryz.results34, go_sem, z0, zl]; try rfl) rfl ?_
        refine ⟨_, _, ms', rfl, HO3.out.far HZ3.out (by decide) (by decide) _ _, by omega, fun m hm => (HM3.out m hm).2, ?_, ?_⟩
        · exact (rd_set HP5.out (by simp only; omega) _).mono (by omega)
        · exact chg_set HC3.out (Nat.le_refl _) _
end Go.Proofs.YtnjoofpllhbccaaGreat

/- The draw DrawPrgAt. No condition. -/
namespace Go.Proofs.YtnjoofpllhbccaaGreat
open Go.RowKit
set_option linter.unusedVariables false
set_option linter.unusedSimpArgs false
attribute [local go_sem] dg_cell dg_frozen dg_lt dg_lt1 dg_lt2 dg_ne dg_ne1 dg_ne2 dg_new dg_wen lt_s2 lt_s3 lt_s4 lt_s5 lt_s6

/-- A program in memory that is there. -/
def PrgIn (w : World) (a : Option Addr) (n : Nat) (ps : List Prc) : Prop := RdP w a n ps ∧ n ≤ 5 ∧ ∀ p, p ∈ ps → p.code.length ≤ 12
theorem PrgIn.grew {w w' : World} {a : Option Addr} {n : Nat} {ps : List Prc} (h : PrgIn w a n ps) (hg : Grew w w') : PrgIn w' a n ps := ⟨h.1.grew hg, h.2⟩
theorem PrgIn.of {w : World} {B n cap : Nat} {a : Option Addr} {ms : List (Prc × Value)} (h : OwnP w B (.slice a n cap) n ms) (hn : n ≤ 5) (hm : ∀ m, m ∈ ms → m.1.code.length ≤ 12) : PrgIn w a n (ms.map (·.1)) :=
  ⟨h.rd, hn, fun p hp => by obtain ⟨m, hm1, rfl⟩ := List.mem_map.1 hp; exact hm m hm1⟩
theorem PrgIn.len {w : World} {a : Option Addr} {n : Nat} {ps : List Prc} (h : PrgIn w a n ps) : ps.length = n := h.1.len

end Go.Proofs.YtnjoofpllhbccaaGreat

/- The draws of a program and a procedure. No condition. -/
namespace Go.Proofs.YtnjoofpllhbccaaGreat
open Go.RowKit
set_option linter.unusedVariables false
set_option linter.unusedSimpArgs false
attribute [local go_sem] dg_cell dg_frozen dg_lt dg_lt1 dg_lt2 dg_ne dg_ne1 dg_ne2 dg_new dg_wen lt_s2 lt_s3 lt_s4 lt_s5 lt_s6

/-- A program and a number were drawn. -/
def RetPN (w : World) (e : Ending) (w' : World) : Prop := ∃ a' m c' ps x, e = .returned (.tuple #[.agg #[.slice a' m c'], .int .i64 x]) ∧ PrgIn w' a' m ps ∧ Grew w w'
set_option maxRecDepth 100000 in
set_option maxHeartbeats 2000000 in
theorem drawGrfCalls (a : Option Addr) (n cap : Nat) (zs : List Int) (w : World) (hr : Rd w a n 1 (ints .u8 zs)) (hz : Bs zs) (hc : n ≤ cap ∧ cap ≤ maxLen) :
    Calls Tryz.prog 22 #[.slice a n cap] w (RetPN w) := by
  have HR0 := Lib.hid (hr.grew (grew_al (Below.refl _ w) (.cells Zq 25))); clear hr
  have HZ := Lib.hid hz; clear hz
  go_enter Tryz.func22, Tryz.ntmps22
  go_wp2_with fail
  refine (l20Open _ _ _ _ _ HR0.out HZ.out hc).mono ?_
  rintro e w1 ⟨rfl, h1, h2⟩
  have hZ1 := Lib.hid (show Blk w1 w.heap.size 25 Zq from (Blk.new w _ _).grew h2)
  have G1 := Lib.hid (show Grew w w1 from grew_tr (grew_al (Below.refl _ w) _) h2)
  obtain ⟨g, hg⟩ : ∃ g, w.heap.size + 1 = g := ⟨_, rfl⟩
  simp only [World.size_alloc, hg] at h1 ⊢
  have hgw : w.heap.size < g := by omega
  have ngz : ¬ w.heap.size = g := by omega
  have lg := h1.lt
  have H1 := Lib.hid h1
  clear h1 h2 hg HR0 HZ
  go_wp2_with fail
  refine Calls.mono (progOrG (q := 16) H1.out (by omega) (by omega)) ?_
  rintro e w2 ⟨v, m, ms, rfl, ho, hm5, hml, hr2, hc2⟩
  obtain ⟨pa, pc, rfl⟩ := owns_slice ho.2.1
  obtain ⟨b5, hb5⟩ : ∃ b, w2.heap.size = b := ⟨_, rfl⟩
  have h5 : w1.heap.size ≤ b5 := by have := hc2.size; omega
  have n5 : ¬ b5 = g := by omega
  have nzb : ¬ w.heap.size = b5 := by omega
  go_wp2_with fail
  try simp only [hb5]
  refine calls_let ?_
  intro E hE
  have CE : ChgG g w1 E := by rw [hE]; exact chg_al hc2 _
  have BE : Blk E b5 25 #[.slice pa m pc] := by rw [hE]; subst hb5; exact Blk.new _ _ _
  have OE : OwnP E w1.heap.size (.slice pa m pc) m ms := by rw [hE]; exact ho.grew (grew_al (Below.refl _ _) _)
  have RE : RdLe E g (0 + 1720) := by rw [hE]; exact rd_al hr2 _
  clear hE ho hr2 hc2 hb5
  refine Calls.mono (pickG (k := 2) RE (by omega) (by omega)) ?_
  rintro e w3 ⟨v, rfl, ⟨s, rfl, hs⟩, hr3, hc3⟩
  have C3 := Lib.hid (CE.trans hc3)
  have B3 := Lib.hid (BE.chg hc3 n5)
  have O3 : Hid (OwnP w3 w1.heap.size (.slice pa m pc) m ms) := Lib.hid ⟨OE.1, owns_chg OE.2.1 hc3 (fun b hb e => by have := (OE.2.1.lt b hb).1; omega), fun q hq => owns_chg (OE.2.2 q hq) hc3 (fun b hb e => by have := ((OE.2.2 q hq).lt b hb).1; omega)⟩
  have R3 := Lib.hid hr3
  have HML0 := Lib.hid hml
  clear CE BE OE RE hr3 hc3 hml
  obtain ⟨B, hB⟩ : ∃ B, w1.heap.size = B := ⟨_, rfl⟩
  have hgB : g < B := by omega
  have hwB : w.heap.size < B := by omega
  have hB5 : B ≤ b5 := by omega
  by_cases hs0 : s = 0
  · subst hs0
    go_wp2_with fail
    refine Calls.mono (smallG R3.out (by omega)) ?_
    rintro e w4 ⟨v, m4, ms4, rfl, ho4, hm4, hml4, hr4, hc4⟩
    obtain ⟨pa4, pc4, rfl⟩ := owns_slice ho4.2.1
    have B4 := Lib.hid (B3.out.chg hc4 n5)
    have p0 : w4.cell? ⟨b5, 0, none⟩ = some (.slice pa m pc) := B4.out.cell 0
    have pf := fun j => B4.out.frozen j
    have pl := B4.out.lt
    go_upto_region 5 with fail
    refine wp_let_c ?_
    intro E hE
    have hb5r := blk_ne B4.out ho4.2.1 (by decide)
    have HB7 := Lib.hid (show Blk E b5 25 #[.slice pa4 m4 pc4] from by rw [hE]; exact B4.out.set_ 0 _)
    have HC7 := Lib.hid (show ChgG g w1 E from by rw [hE]; exact chg_set (C3.out.trans hc4) (by simp only; omega) _)
    have HO7 := Lib.hid (show OwnP E B (.slice pa4 m4 pc4) m4 ms4 from by
      rw [hE]
      exact (ho4.far B4.out (by decide) (by decide) _ _).mono (by have := C3.out.size; omega))
    have HR7 := Lib.hid (show RdLe E g (0 + 1720 + 1 + 1720) from by rw [hE]; exact rd_set hr4 (by simp only; omega) _)
    have HZ7 := Lib.hid (hZ1.out.chg HC7.out ngz)
    have HML := Lib.hid hml4
    clear hE hb5r B4 p0 pf pl ho4 hr4 hc4 hml4 C3 B3 O3 R3 HML0 hm5
    have hm5 := hm4
    clear hm4
    have d0 : E.cell? ⟨b5, 0, none⟩ = some (.slice pa4 m4 pc4) := HB7.out.cell 0
    obtain ⟨_, rfl⟩ : ∃ x : Nat, x = 0 := ⟨_, rfl⟩
    go_wp2_with fail
    go_region_held3 (fun W => W.cell? ⟨b5, 0, none⟩ = some (.slice pa4 m4 pc4)) (first | assumption | exact d0 | exact hs8 | exact (cell_far1 nzb).trans hs8)
      (first
      | (go_at_call 33; refine Calls.mono (pickG (k := 6) (rd_drew HR7.out) (by omega) (by omega)) ?_; rintro e w8 ⟨v8, rfl, ⟨q8, rfl, hq8⟩, hr8, hc8⟩; have hcc8 : ChgG g E w8 := ChgG.trans (chg_drew (ChgG.refl _ _)) hc8; have hb8 := HB7.out.chg hcc8 n5; have hz8 := HZ7.out.chg hcc8 ngz; have hs8 : w8.cell? ⟨b5, 0, none⟩ = some (.slice pa4 m4 pc4) := hb8.cell 0; have z0 : w8.cell? ⟨w.heap.size, 0, none⟩ = some (.slice none 0 0) := hz8.cell 0; have zf := fun j => hz8.frozen j; have zl := hz8.lt; have HX8 := Lib.hid (And.intro hcc8 hz8); clear hcc8 hb8 hr8 hc8 hz8))
    go_wp2
    refine bodyPost_ret (by simp [results, Tryz.results22, go_sem, z0, zl]; try rfl) rfl ?_
    obtain ⟨hcc, hz⟩ := HX8.out
    have hO8 : OwnP w8 B (.slice pa4 m4 pc4) m4 ms4 := ⟨HO7.out.1, owns_chg HO7.out.2.1 hcc (fun b hb e => by have := (HO7.out.2.1.lt b hb).1; omega), fun q hq => owns_chg (HO7.out.2.2 q hq) hcc (fun b hb e => by have := ((HO7.out.2.2 q hq).lt b hb).1; omega)⟩
    refine ⟨pa4, m4, pc4, _, _, rfl, PrgIn.of (hO8.far hz (by decide) (by decide) _ _) hm5 HML.out, ?_⟩
    exact grew_set (G1.out.trans ((HC7.out.trans hcc).belowB G1.out.size (fun k hk => by omega))) (Nat.le_refl _) _
  · have q0 : ((s : Int) == 0) = false := by simp; omega
    go_upto_region 5 with fail
    refine wp_let_c ?_
    intro E hE
    subst hE
    have HB7 := B3
    have HC7 := C3
    have HO7 : Hid (OwnP E B (.slice pa m pc) m ms) := Lib.hid (by rw [← hB]; exact O3.out)
    have HR7 := R3
    have HZ7 := Lib.hid (hZ1.out.chg HC7.out ngz)
    have HML := HML0
    clear B3 C3 O3 R3 HML0
    have d0 : E.cell? ⟨b5, 0, none⟩ = some (.slice pa m pc) := HB7.out.cell 0
    go_wp2_with fail
    go_region_held3 (fun W => W.cell? ⟨b5, 0, none⟩ = some (.slice pa m pc)) (first | assumption | exact d0 | exact hs8 | exact (cell_far1 nzb).trans hs8)
      (first
      | (go_at_call 33; refine Calls.mono (pickG (k := 6) (rd_drew HR7.out) (by omega) (by omega)) ?_; rintro e w8 ⟨v8, rfl, ⟨q8, rfl, hq8⟩, hr8, hc8⟩; have hcc8 : ChgG g E w8 := ChgG.trans (chg_drew (ChgG.refl _ _)) hc8; have hb8 := HB7.out.chg hcc8 n5; have hz8 := HZ7.out.chg hcc8 ngz; have hs8 : w8.cell? ⟨b5, 0, none⟩ = some (.slice pa m pc) := hb8.cell 0; have z0 : w8.cell? ⟨w.heap.size, 0, none⟩ = some (.slice none 0 0) := hz8.cell 0; have zf := fun j => hz8.frozen j; have zl := hz8.lt; have HX8 := Lib.hid (And.intro hcc8 hz8); clear hcc8 hb8 hr8 hc8 hz8))
    go_wp2
    refine bodyPost_ret (by simp [results, Tryz.results22, go_sem, z0, zl]; try rfl) rfl ?_
    obtain ⟨hcc, hz⟩ := HX8.out
    have hO8 : OwnP w8 B (.slice pa m pc) m ms := ⟨HO7.out.1, owns_chg HO7.out.2.1 hcc (fun b hb e => by have := (HO7.out.2.1.lt b hb).1; omega), fun q hq => owns_chg (HO7.out.2.2 q hq) hcc (fun b hb e => by have := ((HO7.out.2.2 q hq).lt b hb).1; omega)⟩
    refine ⟨pa, m, pc, _, _, rfl, PrgIn.of (hO8.far hz (by decide) (by decide) _ _) hm5 HML.out, ?_⟩
    exact grew_set (G1.out.trans ((HC7.out.trans hcc).belowB G1.out.size (fun k hk => by omega))) (Nat.le_refl _) _
end Go.Proofs.YtnjoofpllhbccaaGreat

/- The draws that hand on a program and a number. No condition. -/
namespace Go.Proofs.YtnjoofpllhbccaaGreat
open Go.RowKit
set_option linter.unusedVariables false
set_option linter.unusedSimpArgs false
attribute [local go_sem] ext_cell ext_frozen ext_lt ext_le ext_le1 lt_s2 lt_s3 lt_s4 lt_s5 lt_s6 ext_lt1 ext_lt2 ext_lt3

/-- A program was drawn. -/
def RetPO (w : World) (e : Ending) (w' : World) : Prop := ∃ a' m c' ps, e = .returned (.agg #[.slice a' m c']) ∧ PrgIn w' a' m ps ∧ Grew w w'
/-- A store to a box of one slice leaves a program that is read: its first cells are numbers. -/
theorem cell_box {w : World} {g b j : Nat} {t : TypeId} {k : IntKind} {x : Int} (hb : Blk w g t #[.slice none 0 0]) (h : w.cell? ⟨b, j, none⟩ = some (.int k x)) : g ≠ b := by
  rintro rfl
  rw [hb.cell] at h
  rcases j with _ | j <;> simp at h
theorem rdI_box {w : World} {a : Option Addr} {n g : Nat} {t : TypeId} {is : List Ins} (h : RdL EIns 8 w a n is) (hb : Blk w g t #[.slice none 0 0]) (o : Nat) (u : Value) : RdL EIns 8 (w.setCell ⟨g, o, none⟩ u) a n is := by
  rcases Nat.eq_zero_or_pos n with rfl | hn
  · exact ⟨h.1, .inl rfl⟩
  · obtain ⟨b, off, op, d, ia, ib, rel, lo, hi, to, rfl, hx, c0, _⟩ := rdI_at h hn
    have hne := cell_box hb c0
    refine RdL.mono (w := w) (fun cs x e => e) (fun b' o' v hv he => ?_) h
    obtain ⟨o2, e⟩ := he
    cases e
    exact (World.cell?_setCell_far _ _ _ _ hne).trans hv
theorem rdP_box {w : World} {a : Option Addr} {n g : Nat} {t : TypeId} {ps : List Prc} (h : RdP w a n ps) (hb : Blk w g t #[.slice none 0 0]) (o : Nat) (u : Value) : RdP (w.setCell ⟨g, o, none⟩ u) a n ps := by
  rcases Nat.eq_zero_or_pos n with rfl | hn
  · exact ⟨h.1, .inl rfl⟩
  · obtain ⟨b, off, lo, hi, is, ia, ic, rfl, hx, c0, _⟩ := rdP_at h hn
    have hne := cell_box hb c0
    refine RdL.mono (fun cs p e => ?_) (fun b' o' v hv he => ?_) h
    · obtain ⟨a', c', h1, h2, h3⟩ := e
      exact ⟨a', c', h1, rdI_box h2 hb o u, h3⟩
    · obtain ⟨o2, e⟩ := he
      cases e
      exact (World.cell?_setCell_far _ _ _ _ hne).trans hv
theorem PrgIn.box {w : World} {a : Option Addr} {n g : Nat} {t : TypeId} {ps : List Prc} (h : PrgIn w a n ps) (hb : Blk w g t #[.slice none 0 0]) (o : Nat) (u : Value) : PrgIn (w.setCell ⟨g, o, none⟩ u) a n ps := ⟨rdP_box h.1 hb o u, h.2⟩
theorem drawGrfNeeds (a : Option Addr) (n cap : Nat) (zs : List Int) (w : World) (hr : Rd w a n 1 (ints .u8 zs)) (hz : Bs zs) (hc : n ≤ cap ∧ cap ≤ maxLen) :
    Calls Tryz.prog 6 #[.slice a n cap] w (RetPN w) := by
  have HR0 := Lib.hid (hr.grew (grew_al (Below.refl _ w) (.cells Zq 25))); clear hr
  have HZ := Lib.hid hz; clear hz
  go_enter Tryz.func6, Tryz.ntmps6
  go_wp2_with fail
  refine (drawGrfCalls a n cap zs _ HR0.out HZ.out hc).mono ?_
  rintro e w1 ⟨pa, m, pc, ps, x, rfl, hp, g1⟩
  have Z1 := Lib.hid (show Blk w1 w.heap.size 25 Zq from (Blk.new w _ _).grew g1)
  have G1 := Lib.hid (show Grew w w1 from grew_tr (grew_al (Below.refl _ w) _) g1)
  have P1 := Lib.hid hp
  have z0 : w1.cell? ⟨w.heap.size, 0, none⟩ = some (.slice none 0 0) := Z1.out.cell 0
  have zf := fun j => Z1.out.frozen j
  have zl := Z1.out.lt
  clear hp g1 HR0 HZ
  go_wp2
  refine bodyPost_ret (by simp [results, Tryz.results6, go_sem, z0, zl]; try rfl) rfl ?_
  refine ⟨pa, m, pc, ps, _, rfl, P1.out.box Z1.out _ _, grew_set G1.out (Nat.le_refl _) _⟩
theorem drawGrfOrder (a : Option Addr) (n cap : Nat) (zs : List Int) (w : World) (hr : Rd w a n 1 (ints .u8 zs)) (hz : Bs zs) (hc : n ≤ cap ∧ cap ≤ maxLen) :
    Calls Tryz.prog 19 #[.slice a n cap] w (RetPO w) := by
  have HR0 := Lib.hid (hr.grew (grew_al (Below.refl _ w) (.cells Zq 25))); clear hr
  have HZ := Lib.hid hz; clear hz
  go_enter Tryz.func19, Tryz.ntmps19
  go_wp2_with fail
  refine (drawGrfCalls a n cap zs _ HR0.out HZ.out hc).mono ?_
  rintro e w1 ⟨pa, m, pc, ps, x, rfl, hp, g1⟩
  have Z1 := Lib.hid (show Blk w1 w.heap.size 25 Zq from (Blk.new w _ _).grew g1)
  have G1 := Lib.hid (show Grew w w1 from grew_tr (grew_al (Below.refl _ w) _) g1)
  have P1 := Lib.hid hp
  have z0 : w1.cell? ⟨w.heap.size, 0, none⟩ = some (.slice none 0 0) := Z1.out.cell 0
  have zf := fun j => Z1.out.frozen j
  have zl := Z1.out.lt
  clear hp g1 HR0 HZ
  go_wp2
  refine bodyPost_ret (by simp [results, Tryz.results19, go_sem, z0, zl]; try rfl) rfl ?_
  refine ⟨pa, m, pc, ps, rfl, ?_, ?_⟩
  · first | exact (P1.out.box Z1.out _ _).grew (grew_al (Below.refl _ _) _) | exact (P1.out.grew (grew_al (Below.refl _ _) _)).box (Z1.out.alloc _) _ _
  · first | exact grew_al (grew_set G1.out (Nat.le_refl _) _) _ | exact grew_set (grew_al G1.out _) (Nat.le_refl _) _
end Go.Proofs.YtnjoofpllhbccaaGreat
