/- The draw of a program. No condition. -/
import Derived.Test.YtcdfomoglkhboaaGreatDoorDrT
namespace Go.Proofs.YtcdfomoglkhboaaGreatDoor
open Go.RowKit
set_option linter.unusedVariables false
set_option linter.unusedSimpArgs false
attribute [local go_sem] dg_cell dg_frozen dg_lt dg_lt1 dg_lt2 dg_ne dg_ne1 dg_ne2 dg_new dg_wen lt_s2 lt_s3 lt_s4 lt_s5 lt_s6

/-- A program in memory of its own was drawn. -/
def RetPrg (g P base : Nat) (w : World) (e : Ending) (w' : World) : Prop :=
  ∃ (v : Value) (n : Nat) (ms : List (Prc × Value)), e = .returned (.agg #[v]) ∧ OwnP w' base v n ms ∧ (1 ≤ n ∧ n ≤ 4) ∧ (∀ m, m ∈ ms → 1 ≤ m.1.code.length ∧ m.1.code.length ≤ 12) ∧ RdLe w' g P ∧ ChgG g w w'
abbrev Zq : Array Value := #[.slice none 0 0]
/-- What stands while a program is drawn: its box at b. -/
def PG0 (g : Nat) (w : World) (b : Nat) (k : Nat) (wr : World) : Prop :=
  ChgG g w wr ∧ Blk wr w.heap.size 25 Zq ∧ ∃ (v : Value) (ms : List (Prc × Value)), Blk wr b 25 #[v] ∧ OwnP wr w.heap.size v k ms ∧ ∀ m, m ∈ ms → 1 ≤ m.1.code.length ∧ m.1.code.length ≤ 12
/-- One procedure of it: its code is its own, in none of these blocks. -/
def XP (B : Nat) (FF : Nat → Prop) (W : World) (m : Prc × Value) : Prop := W.ownsRow B 38 8 m.2 m.1.code.length (m.1.code.flatMap Ins.cells) ∧ (∀ t, m.2.ownBlock = some t → ¬ FF t) ∧ 1 ≤ m.1.code.length ∧ m.1.code.length ≤ 12
theorem XP.chg {B : Nat} {FF G : Nat → Prop} {W W' : World} {m : Prc × Value} (h : XP B FF W m) (c : Chg G W W') (hG : ∀ t, G t → FF t) : XP B FF W' m := ⟨owns_chg h.1 c (fun t ht e => h.2.1 t ht (hG t e)), h.2⟩
def JG (g : Nat) (w : World) (b4 : Nat) (k : Nat) (FF : Nat → Prop) (ms : List (Prc × Value)) (a : Option Addr) (cap : Nat) (b : Bool) (W : World) : Prop :=
  ChgG g w W ∧ Blk W w.heap.size 25 Zq ∧ Blk W b4 25 #[.slice a k cap] ∧ (b = false → W.ownsRow w.heap.size 56 3 (.slice a k cap) k (ms.flatMap prcCells)) ∧ (∀ t, (Value.slice a k cap).ownBlock = some t → w.heap.size ≤ t ∧ t < W.heap.size ∧ ¬ t = b4 ∧ ¬ t = w.heap.size) ∧ ∀ m, m ∈ ms → XP w.heap.size FF W m
section
variable {g : Nat} {w : World} {b4 : Nat} {k : Nat} {FF : Nat → Prop} {ms : List (Prc × Value)} {a : Option Addr} {cap : Nat} {b : Bool} {W W' : World}
theorem JG.cg (h : JG g w b4 k FF ms a cap b W) (c : ChgG g W W') (hg : g < w.heap.size) (hb : ¬ b4 = g) (hF : FF g) : JG g w b4 k FF ms a cap b W' := by
  obtain ⟨h1, h2, h3, h4, h5, h6⟩ := h
  exact ⟨h1.trans c, h2.chg c (by omega), h3.chg c hb, fun e => owns_chg (h4 e) c (fun j hj e2 => by have := ((h4 e).lt j hj).1; omega), fun t ht => ⟨(h5 t ht).1, Nat.lt_of_lt_of_le (h5 t ht).2.1 c.size, (h5 t ht).2.2⟩, fun m hm => (h6 m hm).chg c (fun t e => by rw [e]; exact hF)⟩
theorem JG.fl (h : JG g w b4 k FF ms a cap b W) (hg : g < w.heap.size) : ∀ t, (t = g ∨ t = b4 ∨ t = w.heap.size ∨ (Value.slice a k cap).ownBlock = some t) → t < W.heap.size := fun t ht => by
  have h1 := h.2.2.1.lt
  have h2 := h.2.1.lt
  rcases ht with rfl | rfl | rfl | ht
  · omega
  · exact h1
  · exact h2
  · exact (h.2.2.2.2.1 t ht).2.1
theorem JG.fn (h : JG g w b4 k FF ms a cap b W) (hg : g < w.heap.size) : ∀ t, (t = g ∨ t = b4 ∨ t = w.heap.size) → t < W.heap.size ∧ (Value.slice a k cap).ownBlock ≠ some t := fun t ht => ⟨h.fl hg t (by rcases ht with h | h | h; exact .inl h; exact .inr (.inl h); exact .inr (.inr (.inl h))), fun e => by
  have h4 := h.2.2.2.2.1 t e
  rcases ht with rfl | rfl | rfl
  · omega
  · exact h4.2.2.1 rfl
  · exact h4.2.2.2 rfl⟩
theorem JG.ap (h : JG g w b4 k FF ms a cap false W) (c : Chg (fun b => (Value.slice a k cap).ownBlock = some b) W W') (hF : ∀ t, (Value.slice a k cap).ownBlock = some t → FF t) : JG g w b4 k FF ms a cap true W' := by
  obtain ⟨h1, h2, h3, h4, h5, h6⟩ := h
  exact ⟨chg_own h1 c (fun t ht => (h5 t ht).1), h2.chg c (fun e => (h5 _ e).2.2.2 rfl), h3.chg c (fun e => (h5 _ e).2.2.1 rfl), (fun e => nomatch e), fun t ht => ⟨(h5 t ht).1, Nat.lt_of_lt_of_le (h5 t ht).2.1 c.size, (h5 t ht).2.2⟩, fun m hm => (h6 m hm).chg c hF⟩
end
theorem prc_one (m : Prc × Value) : ∀ u ∈ prcCells m, m.2.oneCell' = true → u.oneCell' = true := by
  intro u hu h
  simp only [prcCells, List.mem_cons, List.not_mem_nil, or_false] at hu
  rcases hu with rfl | rfl | rfl
  · rfl
  · rfl
  · exact h
section
variable {ops : Array Oper} {Q : Exit → Act → World → Prop} {a0 : Act} {g PP : Nat} {c : Nat → Nat} {J J' : World → Prop} {F : Nat → Prop} {R : Nat → World → Value → Prop} {i : Nat} {o : Oper}
theorem ds_any {B : Nat} {FF : Nat → Prop} (d1 d2 d3 k1 k2 k3 : Nat) (kv pv : Int) (h : ∀ (a : Act) (W : World), (execOp a.eval o).run Tryz.prog W = .ok (.enter 96 #[a.eval (.tmp d1), a.eval (.tmp d2), a.eval (.tmp d3)]) W)
    (h1 : Dep ops o k1 d1) (h2 : Dep ops o k2 d2) (h3 : Dep ops o k3 d3) (hs1 : ∀ W v, R k1 W v → v = .pointer (some ⟨g, 0, none⟩)) (hs2 : ∀ W v, R k2 W v → v = .int .i64 kv) (hs3 : ∀ W v, R k3 W v → v = .int .i64 pv) (hc : c i = 402) (hPP : PP + 98 ≤ 1099511627776) (hk : pv ≤ 1099511627776)
    (hJ : ∀ W W', J W → ChgG g W W' → J W') (hFl : ∀ W, J W → ∀ t, FF t → t < W.heap.size) (hB : ∀ W, J W → B ≤ W.heap.size) (hR : ∀ W v, IsX prcCells (XP B FF) W v → R i W v) (hF : F g) : DStep Tryz.prog ops Q a0 g PP c J F R i o := by
  intro a w p hp hJ1 hr hf hd
  have e1 := hs1 _ _ (dep_of h1 hd)
  have e2 := hs2 _ _ (dep_of h2 hd)
  have e3 := hs3 _ _ (dep_of h3 hd)
  rw [hc] at hp
  refine op_enter (h a w) ?_
  rw [e1, e2, e3]
  refine Calls.mono (anyG hr (by omega) hk) ?_
  rintro e W' ⟨lo, hi, v, is, rfl, ho, hl, hr', hc'⟩
  refine ⟨_, rfl, _, rfl, hR _ _ ⟨(⟨lo, hi, is⟩, v), rfl, owns_mono ho (hB _ hJ1), fun t ht e => ?_, hl⟩, hJ _ _ hJ1 hc', by rw [hc]; exact hr', ⟨hc'.os, hc'.tape, hc'.output, hc'.size, fun k hk hn => hc'.block k hk (fun e => hn (e ▸ hF))⟩⟩
  have := hFl _ hJ1 t e
  have := (ho.lt t ht).1
  omega
end

set_option maxRecDepth 100000 in
set_option maxHeartbeats 1000000 in
theorem progG {g P : Nat} {w : World} (h : RdLe w g P) (hp : P + 3000 ≤ 1099511627776) :
    Calls Tryz.prog 54 #[.pointer (some ⟨g, 0, none⟩)] w (RetPrg g (P + 1700) w.heap.size w) := by
  have lt0 := h.lt
  obtain ⟨ne0, ne1, ne2, ne3, ne4, ne5⟩ : ¬ w.heap.size = g ∧ ¬ w.heap.size + 1 = g ∧ ¬ w.heap.size + 1 + 1 = g ∧ ¬ w.heap.size + 1 + 1 + 1 = g ∧ ¬ w.heap.size + 1 + 1 + 1 + 1 = g ∧ ¬ w.heap.size + 1 + 1 + 1 + 1 + 1 = g := by omega
  have HP := Lib.hid h; clear h
  go_enter Tryz.func54, Tryz.ntmps54
  go_wp2_with fail
  refine Calls.mono (pickG (k := 6) (P := P) (g_rd) (by omega) (by omega)) ?_
  rintro e w1 ⟨v, rfl, ⟨u1, rfl, hu1⟩, hr, hc⟩
  have hu1 := hu1 (by omega)
  obtain ⟨y, hy, hl⟩ := lit_get [1, 2, 2, 3, 4, 3] (j := u1) (by simp only [List.length_cons, List.length_nil]; omega)
  have l0 : (w.alloc (.cells Zq 25)).heap.size = w.heap.size + 1 := by simp
  have hcl : w1.cell? ⟨w.heap.size + 1, u1, none⟩ = some (.int .i64 y) := (((Blk.new (w.alloc (.cells Zq 25)) 3 (ints .i64 [1, 2, 2, 3, 4, 3]).toArray).chg hc (by rw [l0]; exact ne1)).cell u1).trans (by simpa using hl) |> fun h => by rw [l0] at h; exact h
  obtain ⟨N, rfl⟩ : ∃ N : Nat, y = (N : Int) := by
    simp only [List.mem_cons, List.not_mem_nil, or_false] at hy
    exact ⟨y.toNat, by omega⟩
  have hN : 1 ≤ N ∧ N ≤ 4 := by
    simp only [List.mem_cons, List.not_mem_nil, or_false] at hy
    omega
  have C1 := Lib.hid (ChgG.trans (chg_al (chg_al (ChgG.refl g w) (.cells Zq 25)) (.cells (ints .i64 [1, 2, 2, 3, 4, 3]).toArray 3)) hc)
  have Z1 := Lib.hid (((Blk.new w 25 Zq).alloc (.cells (ints .i64 [1, 2, 2, 3, 4, 3]).toArray 3)).chg hc ne0)
  have R1 := Lib.hid hr
  have l1 := hr.lt
  have hz1 := Z1.out.lt
  clear hr hc hy hl HP l0
  obtain ⟨b4, hb4⟩ : ∃ b, w1.heap.size = b := ⟨_, rfl⟩
  have h4 : w.heap.size < b4 := by omega
  have n4 : ¬ b4 = g := by omega
  have nzb : ¬ w.heap.size = b4 := by omega
  have HPC : Hid (PG0 g w b4 0 (w1.alloc (.cells #[.slice none 0 0] 25))) := Lib.hid ⟨chg_al C1.out _, Z1.out.alloc _, .slice none 0 0, [], by subst hb4; exact Blk.new _ _ _, ⟨rfl, World.ownsRow_nil _ _ _ _, fun m hm => nomatch hm⟩, fun m hm => nomatch hm⟩
  have HR1 : Hid (RdLe (w1.alloc (.cells #[.slice none 0 0] 25)) g (P + 1 + 402 * 0)) := Lib.hid (rd_al R1.out _)
  go_wp2
  go_loopw [5] (fun i wr => ∃ k : Nat, k ≤ N ∧ i = .int .i64 k ∧ PG0 g w b4 k wr ∧ RdLe wr g (P + 1 + 402 * k)) (fun i _ => N - (intOf i).toNat)
  case atStart => exact ⟨0, Nat.zero_le _, rfl, HPC.out, HR1.out⟩
  case round =>
    clear HPC HR1 C1 Z1 R1 hcl hb4
    obtain ⟨k, hk, rfl, ⟨hC, hZ, v, ms, hB, hO, hM⟩, hR⟩ := hrel
    obtain ⟨a, cap, rfl⟩ := owns_slice hO.2.1
    have c60 : wr.cell? ⟨b4, 0, none⟩ = some (.slice a k cap) := hB.cell 0
    have f6 := fun j => hB.frozen j
    have l6 := hB.lt
    by_cases hlt : k < N
    · have HC := Lib.hid hC
      have HR := Lib.hid hR
      have HZ := Lib.hid hZ
      have HB := Lib.hid hB
      have HO := Lib.hid hO
      have HM := Lib.hid hM
      clear hC hR hZ hB hO hM
      go_wp2_with fail
      have hPP : P + 1 + 402 * k + 402 + 98 ≤ 1099511627776 := by omega
      obtain ⟨FF, hFFe⟩ : ∃ FF : Nat → Prop, FF = fun t => t = g ∨ t = b4 ∨ t = w.heap.size ∨ (Value.slice a k cap).ownBlock = some t := ⟨_, rfl⟩
      have hFF : ∀ b, (b = g ∨ b = b4 ∨ b = w.heap.size) → FF b := fun b hb => by
        rw [hFFe]
        rcases hb with h | h | h
        · exact .inl h
        · exact .inr (.inl h)
        · exact .inr (.inr (.inl h))
      have hFA : ∀ b, (Value.slice a k cap).ownBlock = some b → FF b := fun b hb => by rw [hFFe]; exact .inr (.inr (.inr hb))
      have hFl : ∀ b W, JG g w b4 k FF ms a cap b W → ∀ t, FF t → t < W.heap.size := fun b W h t ht => by rw [hFFe] at ht; exact h.fl lt0 t ht
      have hJC : ∀ b W W', JG g w b4 k FF ms a cap b W → ChgG g W W' → JG g w b4 k FF ms a cap b W' := fun b W W' h c => h.cg c lt0 n4 (hFF g (.inl rfl))
      have hJA : ∀ b W o, JG g w b4 k FF ms a cap b W → JG g w b4 k FF ms a cap b (W.alloc o) := fun b W o h => h.cg (ChgG.of_grew (grew_al (Below.refl _ _) _)) lt0 n4 (hFF g (.inl rfl))
      have hXP : ∀ m, m ∈ ms → XP w.heap.size FF wr m := fun m hm => ⟨HO.out.2.2 m hm, fun t ht e => by
        have h1 := ((HO.out.2.2 m hm).lt t ht).1
        rw [hFFe] at e
        rcases e with rfl | rfl | rfl | e
        · omega
        · exact blk_ne HB.out (HO.out.2.2 m hm) (by decide) ht
        · exact blk_ne HZ.out (HO.out.2.2 m hm) (by decide) ht
        · exact row_row_ne (HO.out.2.2 m hm) HO.out.2.1 (by decide) ht e, HM.out m hm⟩
      have hX : ∀ W W' (x : Prc × Value), Chg (fun b => b = g ∨ b = b4 ∨ b = w.heap.size) W W' → XP w.heap.size FF W x → XP w.heap.size FF W' x := fun _ _ _ c h => h.chg c hFF
      have hXA : ∀ W W' (x : Prc × Value), Chg (fun b => (Value.slice a k cap).ownBlock = some b) W W' → XP w.heap.size FF W x → XP w.heap.size FF W' x := fun _ _ _ c h => h.chg c hFA
      have hXn : ∀ W o (x : Prc × Value), XP w.heap.size FF W x → XP w.heap.size FF (W.alloc o) x := fun W o x h => h.chg (G := fun _ => False) (Chg.of_below (grew_al (Below.refl _ _) _)) (fun _ e => e.elim)
      have hJ0 : JG g w b4 k FF ms a cap false wr.drew := ⟨chg_drew HC.out, HZ.out.grew (grew_d (Below.refl _ _)), HB.out.grew (grew_d (Below.refl _ _)), fun _ => owns_grew HO.out.2.1 (grew_d (Below.refl _ _)), fun t ht => ⟨(HO.out.2.1.lt t ht).1, (HO.out.2.1.lt t ht).2, fun e => blk_ne HB.out HO.out.2.1 (by decide) (e ▸ ht), fun e => blk_ne HZ.out HO.out.2.1 (by decide) (e ▸ ht)⟩, fun m hm => (hXP m hm).chg (G := fun _ => False) (Chg.of_below (grew_d (Below.refl _ _))) (fun _ e => e.elim)⟩
      clear hFFe hXP
      refine region_drawA g (P + 1 + 402 * k) 402 27 7 9 9 [0, 0, 0, 0, 0, 402, 0, 0, 0, 0] (JG g w b4 k FF ms a cap) (PG0 g w b4 (k + 1)) (fun b => b = g ∨ b = b4 ∨ b = w.heap.size) (fun b => (Value.slice a k cap).ownBlock = some b)
        [prV (fun v => v = .pointer (some ⟨b4, 0, none⟩)), prV (fun v => v = .slice a k cap), prV (fun v => v = .pointer (some ⟨g, 0, none⟩)), prV (fun v => v = .int .i64 k), prV (fun v => v = .int .i64 N), prIsX prcCells (XP w.heap.size FF) hX, prOneX 56 prcCells (XP w.heap.size FF) FF (fun b hb => hFF b hb) hX, prNewX 56 3 prcCells (XP w.heap.size FF) w.heap.size k ms hX, prV (fun v => v = .pointer (some ⟨b4, 0, none⟩)), prT]
        (by kernel_rfl) rfl (by kernel_rfl) (by kernel_rfl) (by kernel_rfl) (by decide) (by decide) (by kernel_rfl) ?_ hJ0 HR.out ⟨?_, ?_, ?_, ?_, ?_, ?_, ?_, ?_, ?_, ?_, trivial⟩ ?_
      · intro j W W' u hj hc hu
        rcases j with _ | _ | _ | _ | _ | _ | _ | _ | _ | _ | j
        all_goals first | exact hu | exact absurd rfl hj | exact OneX.chg hu hc hFA (fun x => hXA W W' x hc) | skip
        obtain ⟨x, h1, h2⟩ := hu
        exact ⟨x, h1, hXA _ _ _ hc h2⟩
      · refine ⟨fun _ _ b => ?_, (fun h => by cases h), (fun h => by cases h)⟩
        exact ds_field 4 0 _ _ rfl (by kernel_rfl) rfl (fun W => by kernel_rfl) (fun _ => rfl)
      · refine ⟨fun _ _ b => ?_, (fun h => by cases h), (fun h => by cases h)⟩
        exact ds_run (.slice a k cap) (fun A W hJ hf hd => by
          have e0 : A.eval (.tmp 17) = .pointer (some ⟨b4, 0, none⟩) := dep_of (k := 0) (d := 17) ⟨⟨⟨0, .data⟩, by simp, rfl, by kernel_rfl⟩, by kernel_rfl⟩ hd
          have c2 : W.cell? ⟨b4, 0, none⟩ = some (.slice a k cap) := hJ.2.2.1.cell 0
          simp only [execOp, e0]
          simp [go_sem, c2]) (fun _ => rfl)
      · refine ⟨fun _ _ b => ?_, (fun h => by cases h), (fun h => by cases h)⟩
        exact ds_move 0 _ rfl (by kernel_rfl) rfl (fun _ => rfl)
      · refine ⟨fun _ _ b => ?_, (fun h => by cases h), (fun h => by cases h)⟩
        exact ds_move 5 _ rfl (by kernel_rfl) rfl (fun _ => rfl)
      · refine ⟨fun _ _ b => ?_, (fun h => by cases h), (fun h => by cases h)⟩
        exact ds_move 3 _ rfl (by kernel_rfl) rfl (fun _ => rfl)
      · refine ⟨fun _ _ b => ?_, (fun h => by cases h), (fun h => by cases h)⟩
        exact ds_any (B := w.heap.size) (FF := FF) 19 20 21 2 3 4 k N (fun _ _ => by kernel_rfl) ⟨⟨⟨2, .data⟩, by simp, rfl, by kernel_rfl⟩, by kernel_rfl⟩ ⟨⟨⟨3, .data⟩, by simp, rfl, by kernel_rfl⟩, by kernel_rfl⟩ ⟨⟨⟨4, .data⟩, by simp, rfl, by kernel_rfl⟩, by kernel_rfl⟩ (fun _ _ h => h) (fun _ _ h => h) (fun _ _ h => h) rfl hPP (by omega) (hJC b) (hFl b) (fun W h => h.1.size) (fun _ _ h => h) (.inl rfl)
      · refine ⟨fun _ _ b => ?_, (fun h => by cases h), (fun h => by cases h)⟩
        exact ds_oneX (f := prcCells) (X := XP w.heap.size FF) FF 22 5 rfl ⟨⟨⟨5, .data⟩, by simp, rfl, by kernel_rfl⟩, by kernel_rfl⟩ (fun _ _ h => h) (fun x W => by kernel_rfl) hXn (fun _ _ h => h) (hJA b) (hFl b)
      · refine ⟨fun _ h => absurd rfl h, fun _ => ?_, (fun h => by cases h)⟩
        exact ds_appendX (f := prcCells) (X := XP w.heap.size FF) FF 18 1 23 6 prcEl prc_len (fun _ x hx u hu => prc_one x u hu (by obtain ⟨a, cp, e⟩ := owns_slice hx.1; rw [e]; rfl)) rfl rfl rfl ⟨⟨⟨1, .data⟩, by simp, rfl, by kernel_rfl⟩, by kernel_rfl⟩ ⟨⟨⟨6, .data⟩, by simp, rfl, by kernel_rfl⟩, by kernel_rfl⟩ (fun _ _ h => h) (fun _ _ h => h) (by omega) (by omega) hXA (fun W h => ⟨h.2.2.2.1 rfl, h.1.size⟩) (fun W h => h.fn lt0) lt0 (fun _ _ h => h) (fun W W' h c => h.ap c hFA)
      · refine ⟨fun _ _ b => ?_, (fun h => by cases h), (fun h => by cases h)⟩
        exact ds_field 4 0 _ _ rfl (by kernel_rfl) rfl (fun W => by kernel_rfl) (fun _ => rfl)
      · refine ⟨fun h => absurd rfl h, (fun h => by cases h), fun _ => ?_⟩
        refine ds_storeX (f := prcCells) (X := XP w.heap.size FF) b4 0 25 #[.slice a k cap] 25 8 24 7 rfl ⟨⟨⟨8, .data⟩, by simp, rfl, by kernel_rfl⟩, by kernel_rfl⟩ ⟨⟨⟨7, .data⟩, by simp, rfl, by kernel_rfl⟩, by kernel_rfl⟩ (fun A W a n cp y e1 e2 h c f => by
          obtain ⟨_, _, _, e⟩ := h
          subst e
          simp only [execOp, e1, e2]
          simp [go_sem, c, f]) (fun _ _ h => h) (fun _ _ h => h) (fun W h => h.2.2.1) ⟨_, _, _, rfl⟩ (fun W v h hn hb hne => ?_) (by omega) (.inr (.inl rfl)) (fun _ _ => trivial)
        obtain ⟨a5, cap5, x, rfl, hown, hn5, hx⟩ := hn
        have hch : Chg (fun b => b = b4) W (W.setCell ⟨b4, 0, none⟩ (.slice a5 (k + 1) cap5)) := chg1 (Chg.refl _ _) _
        have hms : ∀ m, m ∈ ms ++ [x] → XP w.heap.size FF (W.setCell ⟨b4, 0, none⟩ (.slice a5 (k + 1) cap5)) m := fun m hm => by
          rcases List.mem_append.1 hm with hm | hm
          · exact (h.2.2.2.2.2 m hm).chg hch (fun t e => hFF t (.inr (.inl e)))
          · obtain rfl := List.mem_singleton.1 hm
            exact hx.chg hch (fun t e => hFF t (.inr (.inl e)))
        exact ⟨chg_set h.1 (by simp only; omega) _, h.2.1.far (by simp only; omega) _, _, ms ++ [x], hb, ⟨by rw [List.length_append, HO.out.1]; rfl, owns_far hown hne _, fun m hm => (hms m hm).1⟩, fun m hm => (hms m hm).2.2⟩
      · rintro vs w5 hJ1 hP hR
        have HI := Lib.hid hJ1
        have HP5 : Hid (RdLe w5 g (P + 1 + 402 * (k + 1))) := Lib.hid (hP.mono (by omega))
        clear hR hJ1 hP hJ0 hX hXA hXn hFl hFA hFF FF hJA hJC hPP
        simp only [putAll, Act.put, List.setIfInBounds_toArray, List.set_cons_zero, List.set_cons_succ]
        go_wp2
        go_roundw
        case rel => exact ⟨k + 1, by omega, by go_num, HI.out, HP5.out⟩
        case measure => (simp [intOf]; try omega)
    · obtain rfl : k = N := by omega
      have z0 : wr.cell? ⟨w.heap.size, 0, none⟩ = some (.slice none 0 0) := hZ.cell 0
      have zf := fun j => hZ.frozen j
      have zl := hZ.lt
      have HC := Lib.hid hC
      have HR := Lib.hid hR
      have HZ := Lib.hid hZ
      have HO := Lib.hid hO
      have HM := Lib.hid hM
      clear hC hR hZ hB hO hM
      go_wp2
      refine bodyPost_ret (by simp [results, Tryz.results54, go_sem, z0, zl]; try rfl) rfl ?_
      refine ⟨_, _, ms, rfl, ⟨HO.out.1, owns_far HO.out.2.1 (blk_ne HZ.out HO.out.2.1 (by decide)) _, fun m hm => owns_far (HO.out.2.2 m hm) (blk_ne HZ.out (HO.out.2.2 m hm) (by decide)) _⟩, hN, HM.out, ?_, ?_⟩
      · exact (rd_set HR.out (by simp only; omega) _).mono (by omega)
      · exact chg_set HC.out (Nat.le_refl _) _
end Go.Proofs.YtcdfomoglkhboaaGreatDoor
