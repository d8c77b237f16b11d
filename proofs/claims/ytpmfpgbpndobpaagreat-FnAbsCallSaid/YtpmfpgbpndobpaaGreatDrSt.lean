/- The draw of a state. No condition. -/
import Derived.Test.YtpmfpgbpndobpaaGreatDrSr
import Derived.Test.YtpmfpgbpndobpaaGreatDrC
namespace Go.Proofs.YtpmfpgbpndobpaaGreat
open Go.RowKit
set_option linter.unusedVariables false
set_option linter.unusedSimpArgs false
attribute [local go_sem] dg_cell dg_frozen dg_lt dg_lt1 dg_lt2 dg_ne dg_ne1 dg_ne2 dg_new dg_wen lt_s2 lt_s3 lt_s4 lt_s5 lt_s6

abbrev Zs : Array Value := #[.bool false, .slice none 0 0, .int .i64 0, .int .i64 0]
/-- What stands while a state's variables are drawn: its box at b. -/
def PS0 (g : Nat) (w : World) (b : Nat) (y0 y1 : Int) (k : Nat) (wr : World) : Prop :=
  ChgG g w wr ∧ Blk wr w.heap.size 33 Zs ∧ ∃ (v : Value) (xs : List Itv), xs.length = k ∧ Blk wr b 33 #[.bool true, v, .int .i64 y0, .int .i64 y1] ∧ wr.ownsRow w.heap.size 31 2 v k (xs.flatMap Itv.cells)
def JS (g : Nat) (w : World) (b6 : Nat) (y0 y1 : Int) (k : Nat) (xs : List Itv) (a : Option Addr) (cap : Nat) (b : Bool) (W : World) : Prop :=
  ChgG g w W ∧ Blk W w.heap.size 33 Zs ∧ Blk W b6 33 #[.bool true, .slice a k cap, .int .i64 y0, .int .i64 y1] ∧ (b = false → W.ownsRow w.heap.size 31 2 (.slice a k cap) k (xs.flatMap Itv.cells)) ∧ ∀ t, (Value.slice a k cap).ownBlock = some t → w.heap.size ≤ t ∧ t < W.heap.size ∧ ¬ t = b6 ∧ ¬ t = w.heap.size
section
variable {g : Nat} {w : World} {b6 : Nat} {y0 y1 : Int} {k : Nat} {xs : List Itv} {a : Option Addr} {cap : Nat} {b : Bool} {W W' : World}
theorem JS.cg (h : JS g w b6 y0 y1 k xs a cap b W) (c : ChgG g W W') (hg : g < w.heap.size) (hb : ¬ b6 = g) : JS g w b6 y0 y1 k xs a cap b W' := by
  obtain ⟨h1, h2, h3, h4, h5⟩ := h
  exact ⟨h1.trans c, h2.chg c (by omega), h3.chg c hb, fun e => owns_chg (h4 e) c (fun j hj e2 => by have := ((h4 e).lt j hj).1; omega), fun t ht => ⟨(h5 t ht).1, Nat.lt_of_lt_of_le (h5 t ht).2.1 c.size, (h5 t ht).2.2⟩⟩
theorem JS.fl (h : JS g w b6 y0 y1 k xs a cap b W) (hg : g < w.heap.size) : ∀ t, (t = g ∨ t = b6 ∨ t = w.heap.size ∨ (Value.slice a k cap).ownBlock = some t) → t < W.heap.size := fun t ht => by
  have h1 := h.2.2.1.lt
  have h2 := h.2.1.lt
  rcases ht with rfl | rfl | rfl | ht
  · omega
  · exact h1
  · exact h2
  · exact (h.2.2.2.2 t ht).2.1
theorem JS.fn (h : JS g w b6 y0 y1 k xs a cap b W) (hg : g < w.heap.size) : ∀ t, (t = g ∨ t = b6 ∨ t = w.heap.size) → t < W.heap.size ∧ (Value.slice a k cap).ownBlock ≠ some t := fun t ht => ⟨h.fl hg t (by rcases ht with h | h | h; exact .inl h; exact .inr (.inl h); exact .inr (.inr (.inl h))), fun e => by
  have h4 := h.2.2.2.2 t e
  rcases ht with rfl | rfl | rfl
  · omega
  · exact h4.2.2.1 rfl
  · exact h4.2.2.2 rfl⟩
theorem JS.ap (h : JS g w b6 y0 y1 k xs a cap false W) (c : Chg (fun b => (Value.slice a k cap).ownBlock = some b) W W') : JS g w b6 y0 y1 k xs a cap true W' := by
  obtain ⟨h1, h2, h3, h4, h5⟩ := h
  exact ⟨chg_own h1 c (fun t ht => (h5 t ht).1), h2.chg c (fun e => (h5 _ e).2.2.2 rfl), h3.chg c (fun e => (h5 _ e).2.2.1 rfl), (fun e => nomatch e), fun t ht => ⟨(h5 t ht).1, Nat.lt_of_lt_of_le (h5 t ht).2.1 c.size, (h5 t ht).2.2⟩⟩
end
abbrev XTI : World → Itv → Prop := fun _ _ => True
section
variable {ops : Array Oper} {Q : Exit → Act → World → Prop} {a0 : Act} {g PP : Nat} {c : Nat → Nat} {J : World → Prop} {F : Nat → Prop} {R : Nat → World → Value → Prop} {i : Nat} {o : Oper}
theorem ds_itv (d : Tmp) (kd : Nat) (n : Int) (h : ∀ (a : Act) (W : World), (execOp a.eval o).run Tryz.prog W = .ok (.enter 111 #[a.eval (.tmp d), .int .i64 n]) W) (hdep : Dep ops o kd d)
    (hq : ∀ W v, R kd W v → v = .pointer (some ⟨g, 0, none⟩)) (hc : c i = 20) (hPP : PP + 20 ≤ 1099511627776) (hn : -1099511627776 ≤ n ∧ n ≤ 1099511627776) (hR : ∀ W v, IsItv v → R i W v) (hJ : ∀ W W', J W → ChgG g W W' → J W') (hF : F g) : DStep Tryz.prog ops Q a0 g PP c J F R i o :=
  ds_call (vals := fun ρ => #[ρ (.tmp d), .int .i64 n]) (good := fun ρ w => ρ (.tmp d) = .pointer (some ⟨g, 0, none⟩)) h (fun a w hf hd => hq _ _ (dep_of hdep hd)) (fun ρ p w hg hr hp => by rw [hg, hc]; exact itvG hr (by omega) hn) hR hJ hF
end
theorem itv_one1 (x : Itv) : ∀ u ∈ x.cells, u.oneCell' = true := fun u hu => itv_one [x] u (by simpa using hu)
theorem isX_itv {F : Nat → Prop} {W : World} {v : Value} (h : IsItv v) : IsX Itv.cells XTI W v := by
  obtain ⟨lo, hi, rfl⟩ := h
  exact ⟨⟨lo, hi⟩, rfl, trivial⟩

set_option maxRecDepth 100000 in
set_option maxHeartbeats 4000000 in
theorem stateG {g P : Nat} {n : Int} {w : World} (h : RdLe w g P) (hp : P + 400 ≤ 1099511627776) (hn : -1099511627776 ≤ n ∧ n ≤ 1099511627776) :
    Calls Tryz.prog 61 #[.pointer (some ⟨g, 0, none⟩), .int .i64 n] w (RetSD g (P + 200) w) := by
  have lt0 := h.lt
  obtain ⟨ne0, ne1, ne2, ne3, ne4, ne5⟩ : ¬ w.heap.size = g ∧ ¬ w.heap.size + 1 = g ∧ ¬ w.heap.size + 1 + 1 = g ∧ ¬ w.heap.size + 1 + 1 + 1 = g ∧ ¬ w.heap.size + 1 + 1 + 1 + 1 = g ∧ ¬ w.heap.size + 1 + 1 + 1 + 1 + 1 = g := by omega
  have HP := Lib.hid h; clear h
  go_enter Tryz.func61, Tryz.ntmps61
  go_wp2_with fail
  refine Calls.mono (oddG (k := 9) (P := P) (g_rd) (by omega) (by omega)) ?_
  rintro e w1 ⟨v, rfl, ⟨o, rfl⟩, hr, hc⟩
  have C1 := Lib.hid (ChgG.trans (chg_al (ChgG.refl g w) (.cells Zs 33)) hc)
  have Z1 := Lib.hid ((Blk.new w 33 Zs).chg hc ne0)
  have R1 := Lib.hid hr
  have l1 := hr.lt
  have hz1 := Z1.out.lt
  clear hr hc HP
  cases o
  rotate_left
  · have z0 : w1.cell? ⟨w.heap.size, 0, none⟩ = some (.bool false) := Z1.out.cell 0
    have z1 : w1.cell? ⟨w.heap.size, 1, none⟩ = some (.slice none 0 0) := Z1.out.cell 1
    have z2 : w1.cell? ⟨w.heap.size, 2, none⟩ = some (.int .i64 0) := Z1.out.cell 2
    have z3 : w1.cell? ⟨w.heap.size, 3, none⟩ = some (.int .i64 0) := Z1.out.cell 3
    have zf := fun j => Z1.out.frozen j
    have zl := Z1.out.lt
    go_wp2
    refine bodyPost_ret (by simp [results, Tryz.results61, go_sem, z0, z1, z2, z3, zl]; try rfl) rfl ?_
    exact ⟨_, _, _, _, _, _, rfl, StD.zero _ _, (rd_set (rd_set (rd_set (rd_set R1.out (by simp only; omega) _) (by simp only; omega) _) (by simp only; omega) _) (by simp only; omega) _).mono (by omega), chg_set (chg_set (chg_set (chg_set C1.out (Nat.le_refl _) _) (Nat.le_refl _) _) (Nat.le_refl _) _) (Nat.le_refl _) _⟩
  go_wp2_with fail
  refine Calls.mono (itvG (n := 99999) R1.out (by omega) (by omega)) ?_
  rintro e w2 ⟨v, rfl, ⟨y0, y1, rfl⟩, hr2, hc2⟩
  have C2 := Lib.hid (C1.out.trans hc2)
  have Z2 := Lib.hid (Z1.out.chg hc2 ne0)
  have R2 := Lib.hid hr2
  have l2 := hr2.lt
  have hz2 := Z2.out.lt
  obtain ⟨b6, hb6⟩ : ∃ b, w2.heap.size = b := ⟨_, rfl⟩
  have h6 : w.heap.size < b6 := by omega
  have n6 : ¬ b6 = g := by omega
  have nzb : ¬ w.heap.size = b6 := by omega
  clear hr2 hc2 C1 Z1 R1 l1 hz1
  go_wp2
  try simp only [hb6]
  refine wp_let_c ?_
  intro E hE
  have HPC : Hid (PS0 g w b6 y0 y1 0 E) := Lib.hid ⟨by rw [hE]; have := C2.out; exact g_chg, by rw [hE]; have := Z2.out; (repeat (first | with_reducible assumption | with_reducible exact Blk.new' (by simp only [World.size_alloc, World.size_drew, World.size_setCell]) | with_reducible refine Blk.alloc ?_ _ | with_reducible refine Blk.grew ?_ (grew_d (Below.refl _ _)) | with_reducible refine Blk.far ?_ (by first | assumption | (simp only; omega)) _)), .slice none 0 0, [], rfl, by rw [hE]; subst hb6; (repeat (first | with_reducible assumption | with_reducible exact Blk.new' (by simp only [World.size_alloc, World.size_drew, World.size_setCell]) | with_reducible refine Blk.alloc ?_ _ | with_reducible refine Blk.grew ?_ (grew_d (Below.refl _ _)) | with_reducible refine Blk.far ?_ (by first | assumption | (simp only; omega)) _)), World.ownsRow_nil _ _ _ _⟩
  have HR2 : Hid (RdLe E g (P + 21 + 20 * 0)) := Lib.hid (by rw [hE]; have := R2.out; exact g_rd)
  clear hE C2 Z2 R2 hb6 l2 hz2
  go_loopw [6] (fun i wr => ∃ k : Nat, k ≤ 4 ∧ i = .int .i64 k ∧ PS0 g w b6 y0 y1 k wr ∧ RdLe wr g (P + 21 + 20 * k)) (fun i _ => 4 - (intOf i).toNat)
  case atStart => exact ⟨0, Nat.zero_le _, rfl, HPC.out, HR2.out⟩
  case round =>
    clear HPC HR2
    obtain ⟨k, hk, rfl, ⟨hC, hZ, v, xs, hl, hB, hO⟩, hR⟩ := hrel
    obtain ⟨a, cap, rfl⟩ := owns_slice hO
    have c60 : wr.cell? ⟨b6, 0, none⟩ = some (.bool true) := hB.cell 0
    have c61 : wr.cell? ⟨b6, 1, none⟩ = some (.slice a k cap) := hB.cell 1
    have c62 : wr.cell? ⟨b6, 2, none⟩ = some (.int .i64 y0) := hB.cell 2
    have c63 : wr.cell? ⟨b6, 3, none⟩ = some (.int .i64 y1) := hB.cell 3
    have f6 := fun j => hB.frozen j
    have l6 := hB.lt
    have hrow := fun b hb => hO.lt b hb
    have nb6 := blk_ne hB hO (by decide)
    have nz := blk_ne hZ hO (by decide)
    have HC := Lib.hid hC
    have HR := Lib.hid hR
    have HZ := Lib.hid hZ
    have HB := Lib.hid hB
    have HO := Lib.hid hO
    have HRow := Lib.hid hrow
    have HN := Lib.hid nb6
    have HNZ := Lib.hid nz
    have HL := Lib.hid hl
    clear hC hR hZ hB hO hrow nb6 nz hl
    by_cases hlt : k < 4
    · go_wp2_with fail
      have hPP : P + 21 + 20 * k + 20 + 20 ≤ 1099511627776 := by omega
      have hJC : ∀ b W W', JS g w b6 y0 y1 k xs a cap b W → ChgG g W W' → JS g w b6 y0 y1 k xs a cap b W' := fun b W W' h c => h.cg c lt0 n6
      have hJA : ∀ b W o, JS g w b6 y0 y1 k xs a cap b W → JS g w b6 y0 y1 k xs a cap b (W.alloc o) := fun b W o h => h.cg (ChgG.of_grew (grew_al (Below.refl _ _) _)) lt0 n6
      obtain ⟨FF, hFFe⟩ : ∃ FF : Nat → Prop, FF = fun t => t = g ∨ t = b6 ∨ t = w.heap.size ∨ (Value.slice a k cap).ownBlock = some t := ⟨_, rfl⟩
      have hFF : ∀ b, (b = g ∨ b = b6 ∨ b = w.heap.size) → FF b := fun b hb => by
        rw [hFFe]
        rcases hb with h | h | h
        · exact .inl h
        · exact .inr (.inl h)
        · exact .inr (.inr (.inl h))
      have hFA : ∀ b, (Value.slice a k cap).ownBlock = some b → FF b := fun b hb => by rw [hFFe]; exact .inr (.inr (.inr hb))
      have hFl : ∀ b W, JS g w b6 y0 y1 k xs a cap b W → ∀ t, FF t → t < W.heap.size := fun b W h t ht => by rw [hFFe] at ht; exact h.fl lt0 t ht
      clear hFFe
      have hX : ∀ W W' (x : Itv), Chg (fun b => b = g ∨ b = b6 ∨ b = w.heap.size) W W' → XTI W x → XTI W' x := fun _ _ _ _ _ => trivial
      have hJ0 : JS g w b6 y0 y1 k xs a cap false wr.drew := ⟨chg_drew HC.out, HZ.out.grew (grew_d (Below.refl _ _)), HB.out.grew (grew_d (Below.refl _ _)), fun _ => owns_grew HO.out (grew_d (Below.refl _ _)), fun t ht => ⟨(HRow.out t ht).1, (HRow.out t ht).2, fun e => HN.out (e ▸ ht), fun e => HNZ.out (e ▸ ht)⟩⟩
      refine region_drawA g (P + 21 + 20 * k) 20 49 5 7 7 [0, 0, 0, 20, 0, 0, 0, 0] (JS g w b6 y0 y1 k xs a cap) (PS0 g w b6 y0 y1 (k + 1)) (fun b => b = g ∨ b = b6 ∨ b = w.heap.size) (fun b => (Value.slice a k cap).ownBlock = some b)
        [prV (fun v => v = .pointer (some ⟨b6, 1, none⟩)), prV (fun v => v = .slice a k cap), prV (fun v => v = .pointer (some ⟨g, 0, none⟩)), prIsX Itv.cells XTI hX, prOneX 31 Itv.cells XTI FF (fun b hb => hFF b hb) hX, prNewX 31 2 Itv.cells XTI w.heap.size k xs hX, prV (fun v => v = .pointer (some ⟨b6, 1, none⟩)), prT]
        (by kernel_rfl) rfl (by kernel_rfl) (by kernel_rfl) (by kernel_rfl) (by decide) (by decide) (by kernel_rfl) ?_ hJ0 HR.out ⟨?_, ?_, ?_, ?_, ?_, ?_, ?_, ?_, trivial⟩ ?_
      · intro j W W' u hj hc hu
        rcases j with _ | _ | _ | _ | _ | _ | _ | _ | j
        all_goals first | exact hu | exact absurd rfl hj | exact OneX.chg hu hc hFA (fun _ h => h)
      · refine ⟨fun _ _ b => ?_, (fun h => by cases h), (fun h => by cases h)⟩
        exact ds_field 5 1 _ _ rfl (by kernel_rfl) rfl (fun W => by kernel_rfl) (fun _ => rfl)
      · refine ⟨fun _ _ b => ?_, (fun h => by cases h), (fun h => by cases h)⟩
        exact ds_run (.slice a k cap) (fun A W hJ hf hd => by
          have e0 : A.eval (.tmp 17) = .pointer (some ⟨b6, 1, none⟩) := dep_of (k := 0) (d := 17) ⟨⟨⟨0, .data⟩, by simp, rfl, by kernel_rfl⟩, by kernel_rfl⟩ hd
          have c2 : W.cell? ⟨b6, 1, none⟩ = some (.slice a k cap) := hJ.2.2.1.cell 1
          simp only [execOp, e0]
          simp [go_sem, c2]) (fun _ => rfl)
      · refine ⟨fun _ _ b => ?_, (fun h => by cases h), (fun h => by cases h)⟩
        exact ds_move 0 _ rfl (by kernel_rfl) rfl (fun _ => rfl)
      · refine ⟨fun _ _ b => ?_, (fun h => by cases h), (fun h => by cases h)⟩
        exact ds_itv 19 2 99999 (fun _ _ => by kernel_rfl) ⟨⟨⟨2, .data⟩, by simp, rfl, by kernel_rfl⟩, by kernel_rfl⟩ (fun _ _ h => h) rfl hPP (by omega) (fun _ _ h => isX_itv (F := FF) h) (hJC b) (.inl rfl)
      · refine ⟨fun _ _ b => ?_, (fun h => by cases h), (fun h => by cases h)⟩
        exact ds_oneX (f := Itv.cells) (X := XTI) FF 20 3 rfl ⟨⟨⟨3, .data⟩, by simp, rfl, by kernel_rfl⟩, by kernel_rfl⟩ (fun _ _ h => h) (fun x W => by kernel_rfl) (fun _ _ _ _ => trivial) (fun _ _ h => h) (hJA b) (hFl b)
      · refine ⟨fun _ h => absurd rfl h, fun _ => ?_, (fun h => by cases h)⟩
        exact ds_appendX (f := Itv.cells) (X := XTI) FF 18 1 21 4 itvEl itv_len (fun _ x _ => itv_one1 x) rfl rfl rfl ⟨⟨⟨1, .data⟩, by simp, rfl, by kernel_rfl⟩, by kernel_rfl⟩ ⟨⟨⟨4, .data⟩, by simp, rfl, by kernel_rfl⟩, by kernel_rfl⟩ (fun _ _ h => h) (fun _ _ h => h) (by omega) (by omega) (fun _ _ _ _ _ => trivial) (fun W h => ⟨h.2.2.2.1 rfl, h.1.size⟩) (fun W h => h.fn lt0) lt0 (fun _ _ h => h) (fun W W' h c => h.ap c)
      · refine ⟨fun _ _ b => ?_, (fun h => by cases h), (fun h => by cases h)⟩
        exact ds_field 5 1 _ _ rfl (by kernel_rfl) rfl (fun W => by kernel_rfl) (fun _ => rfl)
      · refine ⟨fun h => absurd rfl h, (fun h => by cases h), fun _ => ?_⟩
        refine ds_storeX (f := Itv.cells) (X := XTI) b6 1 33 #[.bool true, .slice a k cap, .int .i64 y0, .int .i64 y1] 23 6 22 5 rfl ⟨⟨⟨6, .data⟩, by simp, rfl, by kernel_rfl⟩, by kernel_rfl⟩ ⟨⟨⟨5, .data⟩, by simp, rfl, by kernel_rfl⟩, by kernel_rfl⟩ (fun A W a n cp y e1 e2 h c f => by
          obtain ⟨_, _, _, e⟩ := h
          subst e
          simp only [execOp, e1, e2]
          simp [go_sem, c, f]) (fun _ _ h => h) (fun _ _ h => h) (fun W h => h.2.2.1) ⟨_, _, _, rfl⟩ (fun W v h hn hb hne => ?_) (by omega) (.inr (.inl rfl)) (fun _ _ => trivial)
        obtain ⟨a5, cap5, x, rfl, hown, hn5, _⟩ := hn
        exact ⟨chg_set h.1 (by simp only; omega) _, h.2.1.far (by simp only; omega) _, _, xs ++ [x], by rw [List.length_append, HL.out]; rfl, hb, owns_far hown hne _⟩
      · rintro vs w5 hJ1 hP hR
        have HI := Lib.hid hJ1
        have HP5 : Hid (RdLe w5 g (P + 21 + 20 * (k + 1))) := Lib.hid (hP.mono (by omega))
        clear hR hJ1 hP hJ0 hX hFl hFA hFF FF hJA hJC hPP
        simp only [putAll, Act.put, List.setIfInBounds_toArray, List.set_cons_zero, List.set_cons_succ]
        go_wp2
        go_roundw
        case rel => exact ⟨k + 1, by omega, by go_num, HI.out, HP5.out⟩
        case measure => (simp [intOf]; try omega)
    · obtain rfl : k = 4 := by omega
      obtain ⟨t, rfl, ht, hcap, hrb⟩ := RowB.of_own HO.out
      have HRB := Lib.hid hrb
      have ntz : ¬ t = w.heap.size := fun e => HNZ.out (by rw [e]; rfl)
      have nt6 : ¬ t = b6 := fun e => HN.out (by rw [e]; rfl)
      have ntg : ¬ t = g := by omega
      clear hrb
      go_wp2_with fail
      refine Calls.mono (oddG (k := n) HR.out (by omega) hn) ?_
      rintro e w7 ⟨v, rfl, ⟨o, rfl⟩, hr7, hc7⟩
      have HB7 := Lib.hid (HB.out.chg hc7 n6)
      have HZ7 := Lib.hid (HZ.out.chg hc7 ne0)
      have HRB7 := Lib.hid (HRB.out.chg hc7 ntg)
      have HC7 := Lib.hid (HC.out.trans hc7)
      have HR7 := Lib.hid hr7
      clear c60 c61 c62 c63 f6 l6 hc7 hr7 HC HR HZ HB HO HRB
      cases o
      · have d0 : w7.cell? ⟨b6, 0, none⟩ = some (.bool true) := HB7.out.cell 0
        have d1 : w7.cell? ⟨b6, 1, none⟩ = some (.slice (some ⟨t, 0, none⟩) 4 cap) := HB7.out.cell 1
        have d2 : w7.cell? ⟨b6, 2, none⟩ = some (.int .i64 y0) := HB7.out.cell 2
        have d3 : w7.cell? ⟨b6, 3, none⟩ = some (.int .i64 y1) := HB7.out.cell 3
        have z0 : w7.cell? ⟨w.heap.size, 0, none⟩ = some (.bool false) := HZ7.out.cell 0
        have z1 : w7.cell? ⟨w.heap.size, 1, none⟩ = some (.slice none 0 0) := HZ7.out.cell 1
        have z2 : w7.cell? ⟨w.heap.size, 2, none⟩ = some (.int .i64 0) := HZ7.out.cell 2
        have z3 : w7.cell? ⟨w.heap.size, 3, none⟩ = some (.int .i64 0) := HZ7.out.cell 3
        have zf := fun j => HZ7.out.frozen j
        have zl := HZ7.out.lt
        go_wp2
        refine bodyPost_ret (by simp [results, Tryz.results61, go_sem, z0, z1, z2, z3, zl]; try rfl) rfl ?_
        refine ⟨_, _, _, _, _, _, rfl, ⟨by omega, by omega, .inr ⟨t, rfl, ht, (((HRB7.out.far ntz _).far ntz _).far ntz _).far ntz _⟩⟩, ?_, ?_⟩
        · exact (rd_set (rd_set (rd_set (rd_set HR7.out (by simp only; omega) _) (by simp only; omega) _) (by simp only; omega) _) (by simp only; omega) _).mono (by omega)
        · exact chg_set (chg_set (chg_set (chg_set HC7.out (Nat.le_refl _) _) (Nat.le_refl _) _) (Nat.le_refl _) _) (Nat.le_refl _) _
      · have d0 : w7.cell? ⟨b6, 0, none⟩ = some (.bool true) := HB7.out.cell 0
        go_wp2_with fail
        refine Calls.mono (pickG (k := 4) HR7.out (by omega) (by omega)) ?_
        rintro e w8 ⟨v, rfl, ⟨q, rfl, hq⟩, hr8, hc8⟩
        have hq := hq (by omega)
        have HB8 := Lib.hid (HB7.out.chg hc8 n6)
        have HZ8 := Lib.hid (HZ7.out.chg hc8 ne0)
        have HRB8 := Lib.hid (HRB7.out.chg hc8 ntg)
        have HC8 := Lib.hid (HC7.out.trans hc8)
        have HR8 := Lib.hid hr8
        have d0 : w8.cell? ⟨b6, 0, none⟩ = some (.bool true) := HB8.out.cell 0
        have d1 : w8.cell? ⟨b6, 1, none⟩ = some (.slice (some ⟨t, 0, none⟩) 4 cap) := HB8.out.cell 1
        have d2 : w8.cell? ⟨b6, 2, none⟩ = some (.int .i64 y0) := HB8.out.cell 2
        have d3 : w8.cell? ⟨b6, 3, none⟩ = some (.int .i64 y1) := HB8.out.cell 3
        have df := fun j => HB8.out.frozen j
        have dl := HB8.out.lt
        clear hr8 hc8 HB7 HZ7 HRB7 HC7 HR7
        have hq4 : q = 0 ∨ q = 1 ∨ q = 2 ∨ q = 3 := by omega
        rcases hq4 with rfl | rfl | rfl | rfl
        · go_upto_region 17 with fail
          refine wp_let_c ?_
          intro E2 hE2
          have HB9 : Hid (Blk E2 b6 33 #[.bool false, .slice (some ⟨t, 0, none⟩) 4 cap, .int .i64 y0, .int .i64 y1]) := Lib.hid (by rw [hE2]; exact (HB8.out.set_ 0 _))
          have HZ9 := Lib.hid (show Blk E2 w.heap.size 33 Zs from by rw [hE2]; exact (HZ8.out.far (by simp only; omega) _))
          have HRB9 := Lib.hid (show RowB t E2 from by rw [hE2]; exact (HRB8.out.far nt6 _))
          have HC9 := Lib.hid (show ChgG g w E2 from by rw [hE2]; exact (chg_set HC8.out (by simp only; omega) _))
          have HR9 := Lib.hid (show RdLe E2 g (P + 21 + 20 * 4 + 1 + 1) from by rw [hE2]; exact (rd_set HR8.out (by simp only; omega) _))
          clear hE2 d0 d1 d2 d3 df dl HB8 HZ8 HRB8 HC8 HR8
          have d0 : E2.cell? ⟨b6, 0, none⟩ = some (.bool false) := HB9.out.cell 0
          have d1 : E2.cell? ⟨b6, 1, none⟩ = some (.slice (some ⟨t, 0, none⟩) 4 cap) := HB9.out.cell 1
          have d2 : E2.cell? ⟨b6, 2, none⟩ = some (.int .i64 y0) := HB9.out.cell 2
          have d3 : E2.cell? ⟨b6, 3, none⟩ = some (.int .i64 y1) := HB9.out.cell 3
          have z0 : E2.cell? ⟨w.heap.size, 0, none⟩ = some (.bool false) := HZ9.out.cell 0
          have z1 : E2.cell? ⟨w.heap.size, 1, none⟩ = some (.slice none 0 0) := HZ9.out.cell 1
          have z2 : E2.cell? ⟨w.heap.size, 2, none⟩ = some (.int .i64 0) := HZ9.out.cell 2
          have z3 : E2.cell? ⟨w.heap.size, 3, none⟩ = some (.int .i64 0) := HZ9.out.cell 3
          have zf := fun j => HZ9.out.frozen j
          have zl := HZ9.out.lt
          go_wp2
          refine bodyPost_ret (by simp [results, Tryz.results61, go_sem, z0, z1, z2, z3, zl]; try rfl) rfl ?_
          refine ⟨_, _, _, _, _, _, rfl, ⟨by omega, by omega, .inr ⟨t, rfl, ht, (((HRB9.out.far ntz _).far ntz _).far ntz _).far ntz _⟩⟩, ?_, ?_⟩
          · exact (rd_set (rd_set (rd_set (rd_set HR9.out (by simp only; omega) _) (by simp only; omega) _) (by simp only; omega) _) (by simp only; omega) _).mono (by omega)
          · exact chg_set (chg_set (chg_set (chg_set HC9.out (Nat.le_refl _) _) (Nat.le_refl _) _) (Nat.le_refl _) _) (Nat.le_refl _) _
        · go_upto_region 14 with fail
          have HS8 := Lib.hid (fun W (c : ChgG g w8 W) => (HB8.out.chg c n6).cell 1)
          go_region_held3 (fun W => W.cell? ⟨b6, 1, none⟩ = some (.slice (some ⟨t, 0, none⟩) 4 cap)) (first | assumption | exact d1 | exact hs9 | exact (cell_far1 nt6).trans ((cell_far1 nt6).trans hs9))
            (first
            | (go_at_call 40; refine Calls.mono (pickG (k := 4) (rd_drew HR8.out) (by omega) (by omega)) ?_; rintro e w9 ⟨v9, rfl, ⟨j9, rfl, hj9⟩, hr9, hc9⟩; have hj9 := hj9 (by omega); have hcc9 : ChgG g w8 w9 := ChgG.trans (chg_drew (ChgG.refl _ _)) hc9; have hs9 : w9.cell? ⟨b6, 1, none⟩ = some (.slice (some ⟨t, 0, none⟩) 4 cap) := HS8.out _ hcc9; have hrb9 := HRB8.out.chg hcc9 ntg; obtain ⟨x0, e0⟩ := hrb9.get (i := j9 * 2) (by omega); obtain ⟨x1, e1⟩ := hrb9.get (i := j9 * 2 + 1) (by omega); have ef := fun j => hrb9.fz j; have el := hrb9.lt; have hj9n : j9 < 4 := (by omega); have HX9 := Lib.hid (And.intro hcc9 hr9); clear hcc9 hr9 hc9 hrb9))
          go_upto_region 17 with fail
          refine wp_let_c ?_
          intro E2 hE2
          have HB9 : Hid (Blk E2 b6 33 #[.bool true, .slice (some ⟨t, 0, none⟩) 4 cap, .int .i64 y0, .int .i64 y1]) := Lib.hid (by rw [hE2]; exact ((HB8.out.chg HX9.out.1 n6).far (fun e => nt6 e.symm) _).far (fun e => nt6 e.symm) _)
          have HZ9 := Lib.hid (show Blk E2 w.heap.size 33 Zs from by rw [hE2]; exact ((HZ8.out.chg HX9.out.1 ne0).far (fun e => ntz e.symm) _).far (fun e => ntz e.symm) _)
          have HRB9 := Lib.hid (show RowB t E2 from by rw [hE2]; exact ((HRB8.out.chg HX9.out.1 ntg).set (i := j9 * 2) (by omega) 1).set (i := j9 * 2 + 1) (by omega) 0)
          have HC9 := Lib.hid (show ChgG g w E2 from by rw [hE2]; exact chg_set (chg_set (HC8.out.trans HX9.out.1) ht _) ht _)
          have HR9 := Lib.hid (show RdLe E2 g (P + 21 + 20 * 4 + 1 + 1 + 1) from by rw [hE2]; exact rd_set (rd_set HX9.out.2 (by simp only; omega) _) (by simp only; omega) _)
          clear hE2 d0 d1 d2 d3 df dl HB8 HZ8 HRB8 HC8 HR8 e0 e1 ef el hs9 HX9 HS8
          have d0 : E2.cell? ⟨b6, 0, none⟩ = some (.bool true) := HB9.out.cell 0
          have d1 : E2.cell? ⟨b6, 1, none⟩ = some (.slice (some ⟨t, 0, none⟩) 4 cap) := HB9.out.cell 1
          have d2 : E2.cell? ⟨b6, 2, none⟩ = some (.int .i64 y0) := HB9.out.cell 2
          have d3 : E2.cell? ⟨b6, 3, none⟩ = some (.int .i64 y1) := HB9.out.cell 3
          have z0 : E2.cell? ⟨w.heap.size, 0, none⟩ = some (.bool false) := HZ9.out.cell 0
          have z1 : E2.cell? ⟨w.heap.size, 1, none⟩ = some (.slice none 0 0) := HZ9.out.cell 1
          have z2 : E2.cell? ⟨w.heap.size, 2, none⟩ = some (.int .i64 0) := HZ9.out.cell 2
          have z3 : E2.cell? ⟨w.heap.size, 3, none⟩ = some (.int .i64 0) := HZ9.out.cell 3
          have zf := fun j => HZ9.out.frozen j
          have zl := HZ9.out.lt
          go_wp2
          refine bodyPost_ret (by simp [results, Tryz.results61, go_sem, z0, z1, z2, z3, zl]; try rfl) rfl ?_
          refine ⟨_, _, _, _, _, _, rfl, ⟨by omega, by omega, .inr ⟨t, rfl, ht, (((HRB9.out.far ntz _).far ntz _).far ntz _).far ntz _⟩⟩, ?_, ?_⟩
          · exact (rd_set (rd_set (rd_set (rd_set HR9.out (by simp only; omega) _) (by simp only; omega) _) (by simp only; omega) _) (by simp only; omega) _).mono (by omega)
          · exact chg_set (chg_set (chg_set (chg_set HC9.out (Nat.le_refl _) _) (Nat.le_refl _) _) (Nat.le_refl _) _) (Nat.le_refl _) _
        · go_upto_region 17 with fail
          refine wp_let_c ?_
          intro E2 hE2
          have HB9 : Hid (Blk E2 b6 33 #[.bool true, .slice (some ⟨t, 0, none⟩) 4 cap, .int .i64 5, .int .i64 32768]) := Lib.hid (by rw [hE2]; exact ((HB8.out.set_ 2 _).set_ 3 _))
          have HZ9 := Lib.hid (show Blk E2 w.heap.size 33 Zs from by rw [hE2]; exact ((HZ8.out.far (by simp only; omega) _).far (by simp only; omega) _))
          have HRB9 := Lib.hid (show RowB t E2 from by rw [hE2]; exact ((HRB8.out.far nt6 _).far nt6 _))
          have HC9 := Lib.hid (show ChgG g w E2 from by rw [hE2]; exact (chg_set (chg_set HC8.out (by simp only; omega) _) (by simp only; omega) _))
          have HR9 := Lib.hid (show RdLe E2 g (P + 21 + 20 * 4 + 1 + 1) from by rw [hE2]; exact (rd_set (rd_set HR8.out (by simp only; omega) _) (by simp only; omega) _))
          clear hE2 d0 d1 d2 d3 df dl HB8 HZ8 HRB8 HC8 HR8
          have d0 : E2.cell? ⟨b6, 0, none⟩ = some (.bool true) := HB9.out.cell 0
          have d1 : E2.cell? ⟨b6, 1, none⟩ = some (.slice (some ⟨t, 0, none⟩) 4 cap) := HB9.out.cell 1
          have d2 : E2.cell? ⟨b6, 2, none⟩ = some (.int .i64 5) := HB9.out.cell 2
          have d3 : E2.cell? ⟨b6, 3, none⟩ = some (.int .i64 32768) := HB9.out.cell 3
          have z0 : E2.cell? ⟨w.heap.size, 0, none⟩ = some (.bool false) := HZ9.out.cell 0
          have z1 : E2.cell? ⟨w.heap.size, 1, none⟩ = some (.slice none 0 0) := HZ9.out.cell 1
          have z2 : E2.cell? ⟨w.heap.size, 2, none⟩ = some (.int .i64 0) := HZ9.out.cell 2
          have z3 : E2.cell? ⟨w.heap.size, 3, none⟩ = some (.int .i64 0) := HZ9.out.cell 3
          have zf := fun j => HZ9.out.frozen j
          have zl := HZ9.out.lt
          go_wp2
          refine bodyPost_ret (by simp [results, Tryz.results61, go_sem, z0, z1, z2, z3, zl]; try rfl) rfl ?_
          refine ⟨_, _, _, _, _, _, rfl, ⟨by omega, by omega, .inr ⟨t, rfl, ht, (((HRB9.out.far ntz _).far ntz _).far ntz _).far ntz _⟩⟩, ?_, ?_⟩
          · exact (rd_set (rd_set (rd_set (rd_set HR9.out (by simp only; omega) _) (by simp only; omega) _) (by simp only; omega) _) (by simp only; omega) _).mono (by omega)
          · exact chg_set (chg_set (chg_set (chg_set HC9.out (Nat.le_refl _) _) (Nat.le_refl _) _) (Nat.le_refl _) _) (Nat.le_refl _) _
        · go_upto_region 17 with fail
          refine wp_let_c ?_
          intro E2 hE2
          have HB9 : Hid (Blk E2 b6 33 #[.bool true, .slice (some ⟨t, 0, none⟩) 3 cap, .int .i64 y0, .int .i64 y1]) := Lib.hid (by rw [hE2]; exact (HB8.out.set_ 1 _))
          have HZ9 := Lib.hid (show Blk E2 w.heap.size 33 Zs from by rw [hE2]; exact (HZ8.out.far (by simp only; omega) _))
          have HRB9 := Lib.hid (show RowB t E2 from by rw [hE2]; exact (HRB8.out.far nt6 _))
          have HC9 := Lib.hid (show ChgG g w E2 from by rw [hE2]; exact (chg_set HC8.out (by simp only; omega) _))
          have HR9 := Lib.hid (show RdLe E2 g (P + 21 + 20 * 4 + 1 + 1) from by rw [hE2]; exact (rd_set HR8.out (by simp only; omega) _))
          clear hE2 d0 d1 d2 d3 df dl HB8 HZ8 HRB8 HC8 HR8
          have d0 : E2.cell? ⟨b6, 0, none⟩ = some (.bool true) := HB9.out.cell 0
          have d1 : E2.cell? ⟨b6, 1, none⟩ = some (.slice (some ⟨t, 0, none⟩) 3 cap) := HB9.out.cell 1
          have d2 : E2.cell? ⟨b6, 2, none⟩ = some (.int .i64 y0) := HB9.out.cell 2
          have d3 : E2.cell? ⟨b6, 3, none⟩ = some (.int .i64 y1) := HB9.out.cell 3
          have z0 : E2.cell? ⟨w.heap.size, 0, none⟩ = some (.bool false) := HZ9.out.cell 0
          have z1 : E2.cell? ⟨w.heap.size, 1, none⟩ = some (.slice none 0 0) := HZ9.out.cell 1
          have z2 : E2.cell? ⟨w.heap.size, 2, none⟩ = some (.int .i64 0) := HZ9.out.cell 2
          have z3 : E2.cell? ⟨w.heap.size, 3, none⟩ = some (.int .i64 0) := HZ9.out.cell 3
          have zf := fun j => HZ9.out.frozen j
          have zl := HZ9.out.lt
          go_wp2
          refine bodyPost_ret (by simp [results, Tryz.results61, go_sem, z0, z1, z2, z3, zl]; try rfl) rfl ?_
          refine ⟨_, _, _, _, _, _, rfl, ⟨by omega, by omega, .inr ⟨t, rfl, ht, (((HRB9.out.far ntz _).far ntz _).far ntz _).far ntz _⟩⟩, ?_, ?_⟩
          · exact (rd_set (rd_set (rd_set (rd_set HR9.out (by simp only; omega) _) (by simp only; omega) _) (by simp only; omega) _) (by simp only; omega) _).mono (by omega)
          · exact chg_set (chg_set (chg_set (chg_set HC9.out (Nat.le_refl _) _) (Nat.le_refl _) _) (Nat.le_refl _) _) (Nat.le_refl _) _
end Go.Proofs.YtpmfpgbpndobpaaGreat
