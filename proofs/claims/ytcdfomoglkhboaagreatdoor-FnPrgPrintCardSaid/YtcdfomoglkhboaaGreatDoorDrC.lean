/- The draw of a procedure that calls others. No condition. -/
import Derived.Test.YtcdfomoglkhboaaGreatDoorDrU
import Derived.Test.YtcdfomoglkhboaaGreatDoorDrP
namespace Go.Proofs.YtcdfomoglkhboaaGreatDoor
open Go.RowKit
set_option linter.unusedVariables false
set_option linter.unusedSimpArgs false
attribute [local go_sem] dg_cell dg_frozen dg_lt dg_lt1 dg_lt2 dg_ne dg_ne1 dg_ne2 dg_new dg_wen lt_s2 lt_s3 lt_s4 lt_s5 lt_s6

/-- What stands while the calls are drawn: the procedure's box at b. -/
def PC0 (g : Nat) (w : World) (b : Nat) (y0 y1 : Int) (k : Nat) (wr : World) : Prop :=
  ChgG g w wr ∧ Blk wr w.heap.size 56 Zp ∧ ∃ (v : Value) (is : List Ins), is.length = k ∧ Blk wr b 56 #[.int .i64 y0, .int .i64 y1, v] ∧ wr.ownsRow w.heap.size 38 8 v k (is.flatMap Ins.cells)
theorem PC0.cg {g : Nat} {w : World} {b : Nat} {y0 y1 : Int} {k : Nat} {E E' : World} (h : PC0 g w b y0 y1 k E) (c : ChgG g E E') (hg : g < w.heap.size) (hb : ¬ b = g) : PC0 g w b y0 y1 k E' := by
  obtain ⟨h1, h3, v, is, h4, h5, h6⟩ := h
  exact ⟨h1.trans c, h3.chg c (by omega), v, is, h4, h5.chg c hb, owns_chg h6 c (fun j hj e => by have := (h6.lt j hj).1; omega)⟩
def JC (g : Nat) (w : World) (b6 : Nat) (y0 y1 : Int) (k : Nat) (is : List Ins) (a : Option Addr) (cap : Nat) (b : Bool) (W : World) : Prop :=
  ChgG g w W ∧ Blk W w.heap.size 56 Zp ∧ Blk W b6 56 #[.int .i64 y0, .int .i64 y1, .slice a k cap] ∧ (b = false → W.ownsRow w.heap.size 38 8 (.slice a k cap) k (is.flatMap Ins.cells)) ∧ ∀ t, (Value.slice a k cap).ownBlock = some t → w.heap.size ≤ t ∧ t < W.heap.size ∧ ¬ t = b6 ∧ ¬ t = w.heap.size
section
variable {g : Nat} {w : World} {b6 : Nat} {y0 y1 : Int} {k : Nat} {is : List Ins} {a : Option Addr} {cap : Nat} {b : Bool} {W W' : World}
theorem JC.cg (h : JC g w b6 y0 y1 k is a cap b W) (c : ChgG g W W') (hg : g < w.heap.size) (hb : ¬ b6 = g) : JC g w b6 y0 y1 k is a cap b W' := by
  obtain ⟨h1, h2, h3, h4, h5⟩ := h
  exact ⟨h1.trans c, h2.chg c (by omega), h3.chg c hb, fun e => owns_chg (h4 e) c (fun j hj e2 => by have := ((h4 e).lt j hj).1; omega), fun t ht => ⟨(h5 t ht).1, Nat.lt_of_lt_of_le (h5 t ht).2.1 c.size, (h5 t ht).2.2⟩⟩
theorem JC.fl (h : JC g w b6 y0 y1 k is a cap b W) (hg : g < w.heap.size) : ∀ t, (t = g ∨ t = b6 ∨ t = w.heap.size ∨ (Value.slice a k cap).ownBlock = some t) → t < W.heap.size := fun t ht => by
  have h1 := h.2.2.1.lt
  have h2 := h.2.1.lt
  rcases ht with rfl | rfl | rfl | ht
  · omega
  · exact h1
  · exact h2
  · exact (h.2.2.2.2 t ht).2.1
theorem JC.fn (h : JC g w b6 y0 y1 k is a cap b W) (hg : g < w.heap.size) : ∀ t, (t = g ∨ t = b6 ∨ t = w.heap.size) → t < W.heap.size ∧ (Value.slice a k cap).ownBlock ≠ some t := fun t ht => ⟨h.fl hg t (by rcases ht with h | h | h; exact .inl h; exact .inr (.inl h); exact .inr (.inr (.inl h))), fun e => by
  have h4 := h.2.2.2.2 t e
  rcases ht with rfl | rfl | rfl
  · omega
  · exact h4.2.2.1 rfl
  · exact h4.2.2.2 rfl⟩
theorem JC.ap (h : JC g w b6 y0 y1 k is a cap false W) (c : Chg (fun b => (Value.slice a k cap).ownBlock = some b) W W') : JC g w b6 y0 y1 k is a cap true W' := by
  obtain ⟨h1, h2, h3, h4, h5⟩ := h
  exact ⟨chg_own h1 c (fun t ht => (h5 t ht).1), h2.chg c (fun e => (h5 _ e).2.2.2 rfl), h3.chg c (fun e => (h5 _ e).2.2.1 rfl), (fun e => nomatch e), fun t ht => ⟨(h5 t ht).1, Nat.lt_of_lt_of_le (h5 t ht).2.1 c.size, (h5 t ht).2.2⟩⟩
end
abbrev XT : World → Ins → Prop := fun _ _ => True

set_option maxRecDepth 100000 in
set_option maxHeartbeats 2000000 in
theorem callsG {g P : Nat} {procs : Int} {w : World} (h : RdLe w g P) (hp : P + 400 ≤ 1099511627776) (hk1 : procs ≤ 1099511627776) :
    Calls Tryz.prog 116 #[.pointer (some ⟨g, 0, none⟩), .int .i64 procs] w (RetPrc g (P + 400) w.heap.size w) := by
  have lt0 := h.lt
  obtain ⟨ne0, ne1, ne2, ne3, ne4, ne5⟩ : ¬ w.heap.size = g ∧ ¬ w.heap.size + 1 = g ∧ ¬ w.heap.size + 1 + 1 = g ∧ ¬ w.heap.size + 1 + 1 + 1 = g ∧ ¬ w.heap.size + 1 + 1 + 1 + 1 = g ∧ ¬ w.heap.size + 1 + 1 + 1 + 1 + 1 = g := by omega
  have HP := Lib.hid h; clear h
  go_enter Tryz.func116, Tryz.ntmps116
  go_wp2_with fail
  refine Calls.mono (pickG (k := 4) (P := P) (g_rd) (by omega) (by omega)) ?_
  rintro e w1 ⟨v, rfl, ⟨u1, rfl, hu1⟩, hr, hc⟩
  have C1 := Lib.hid (ChgG.trans (chg_al (ChgG.refl g w) (.cells Zp 56)) hc)
  have Z1 := Lib.hid ((Blk.new w 56 Zp).chg hc ne0)
  have R1 := Lib.hid hr
  have l1 := hr.lt
  have hz1 := Z1.out.lt
  clear hr hc HP
  obtain ⟨b6, hb6⟩ : ∃ b, w1.heap.size = b := ⟨_, rfl⟩
  have h6 : w.heap.size < b6 := by omega
  have n6 : ¬ b6 = g := by omega
  have nzb : ¬ w.heap.size = b6 := by omega
  go_wp2_with fail
  try simp only [hb6]
  refine calls_let ?_
  intro E hE
  have hpc : PC0 g w b6 0 u1 0 E := ⟨by rw [hE]; have := C1.out; exact g_chg, by rw [hE]; have := Z1.out; (repeat (first | with_reducible assumption | with_reducible exact Blk.new' (by simp only [World.size_alloc, World.size_drew, World.size_setCell]) | with_reducible refine Blk.alloc ?_ _ | with_reducible refine Blk.grew ?_ (grew_d (Below.refl _ _)) | with_reducible refine Blk.far ?_ (by first | assumption | (simp only; omega)) _)), .slice none 0 0, [], rfl, by rw [hE]; subst hb6; (repeat (first | with_reducible assumption | with_reducible exact Blk.new' (by simp only [World.size_alloc, World.size_drew, World.size_setCell]) | with_reducible refine Blk.alloc ?_ _ | with_reducible refine Blk.grew ?_ (grew_d (Below.refl _ _)) | with_reducible refine Blk.far ?_ (by first | assumption | (simp only; omega)) _)), World.ownsRow_nil _ _ _ _⟩
  have hrE : RdLe E g (P + 1) := by rw [hE]; have := R1.out; exact g_rd
  clear hE
  refine Calls.mono (pickG (k := 4) hrE (by omega) (by omega)) ?_
  rintro e w2 ⟨v, rfl, ⟨q, rfl, hq⟩, hr2, hc2⟩
  have hq := hq (by omega)
  have HPC := Lib.hid (hpc.cg hc2 lt0 n6)
  have HR2 : Hid (RdLe w2 g (P + 2 + 2 * 0)) := Lib.hid (hr2.mono (by omega))
  clear hpc hrE hr2 hc2 C1 Z1 R1 hb6 l1 hz1
  obtain ⟨M, hM⟩ : ∃ m : Nat, m = q + 1 := ⟨_, rfl⟩
  have wM : IntKind.i64.wrap (1 + (q : Int)) = (M : Int) := by rw [show 1 + (q : Int) = (M : Int) from by omega]; first | exact IntWalk.i64_in (by omega) (by omega) | exact IntWalk.i64_in _ (by omega) (by omega) | go_unwrap
  have hMb : M ≤ 4 := by omega
  clear hM
  go_wp2
  go_loopw [6] (fun i wr => ∃ j k : Nat, j + k ≤ 4 ∧ i = .int .i64 j ∧ PC0 g w b6 0 u1 k wr ∧ RdLe wr g (P + 2 + 2 * k)) (fun i _ => (intOf i).toNat)
  case atStart => exact ⟨M, 0, by omega, rfl, HPC.out, HR2.out⟩
  case round =>
    clear HPC HR2
    obtain ⟨j, k, hjk, rfl, ⟨hC, hZ, v, is, hl, hB, hO⟩, hR⟩ := hrel
    obtain ⟨a, cap, rfl⟩ := owns_slice hO
    have c60 : wr.cell? ⟨b6, 0, none⟩ = some (.int .i64 0) := hB.cell 0
    have c61 : wr.cell? ⟨b6, 1, none⟩ = some (.int .i64 u1) := hB.cell 1
    have c62 : wr.cell? ⟨b6, 2, none⟩ = some (.slice a k cap) := hB.cell 2
    have f6 := fun j => hB.frozen j
    have l6 := hB.lt
    have hrow := fun b hb => hO.lt b hb
    have nb6 := blk_ne hB hO (by decide)
    have nz := blk_ne hZ hO (by decide)
    by_cases hlt : 0 < j
    · have hji : (j : Int) > 0 := by omega
      have HC := Lib.hid hC
      have HR := Lib.hid hR
      have HZ := Lib.hid hZ
      have HB := Lib.hid hB
      have HO := Lib.hid hO
      have HRow := Lib.hid hrow
      have HN := Lib.hid nb6
      have HNZ := Lib.hid nz
      have HL := Lib.hid hl
      clear hC hR hZ hB hO hrow nb6 nz hl
      go_wp2_with fail
      have hPP : P + 2 + 2 * k + 2 ≤ 1099511627776 := by omega
      have hJC : ∀ b W W', JC g w b6 0 u1 k is a cap b W → ChgG g W W' → JC g w b6 0 u1 k is a cap b W' := fun b W W' h c => h.cg c lt0 n6
      have hJA : ∀ b W o, JC g w b6 0 u1 k is a cap b W → JC g w b6 0 u1 k is a cap b (W.alloc o) := fun b W o h => h.cg (ChgG.of_grew (grew_al (Below.refl _ _) _)) lt0 n6
      obtain ⟨F, hF⟩ : ∃ F : Nat → Prop, F = fun b => b = g ∨ b = b6 ∨ b = w.heap.size := ⟨_, rfl⟩
      obtain ⟨FF, hFFe⟩ : ∃ FF : Nat → Prop, FF = fun t => t = g ∨ t = b6 ∨ t = w.heap.size ∨ (Value.slice a k cap).ownBlock = some t := ⟨_, rfl⟩
      have hFF : ∀ b, (b = g ∨ b = b6 ∨ b = w.heap.size) → FF b := fun b hb => by
        rw [hFFe]
        rcases hb with h | h | h
        · exact .inl h
        · exact .inr (.inl h)
        · exact .inr (.inr (.inl h))
      have hFA : ∀ b, (Value.slice a k cap).ownBlock = some b → FF b := fun b hb => by rw [hFFe]; exact .inr (.inr (.inr hb))
      have hFl : ∀ b W, JC g w b6 0 u1 k is a cap b W → ∀ t, FF t → t < W.heap.size := fun b W h t ht => by rw [hFFe] at ht; exact h.fl lt0 t ht
      clear hFFe hF F
      have hX : ∀ W W' (x : Ins), Chg (fun b => b = g ∨ b = b6 ∨ b = w.heap.size) W W' → XT W x → XT W' x := fun _ _ _ _ _ => trivial
      have hJ0 : JC g w b6 0 u1 k is a cap false wr.drew := ⟨chg_drew HC.out, HZ.out.grew (grew_d (Below.refl _ _)), HB.out.grew (grew_d (Below.refl _ _)), fun _ => owns_grew HO.out (grew_d (Below.refl _ _)), fun t ht => ⟨(HRow.out t ht).1, (HRow.out t ht).2, fun e => HN.out (e ▸ ht), fun e => HNZ.out (e ▸ ht)⟩⟩
      refine region_drawA g (P + 2 + 2 * k) 2 43 10 12 12 [0, 0, 0, 1, 0, 0, 0, 1, 0, 0, 0, 0, 0] (JC g w b6 0 u1 k is a cap) (PC0 g w b6 0 u1 (k + 1)) (fun b => b = g ∨ b = b6 ∨ b = w.heap.size) (fun b => (Value.slice a k cap).ownBlock = some b)
        [prV (fun v => v = .pointer (some ⟨b6, 2, none⟩)), prV (fun v => v = .slice a k cap), prV (fun v => v = .pointer (some ⟨g, 0, none⟩)), prV (IsNat 3), prV IsInt, prV (fun v => v = .pointer (some ⟨g, 0, none⟩)), prV (fun v => v = .int .i64 procs), prV (IsNat procs), prIsX Ins.cells XT hX, prOneX 38 Ins.cells XT FF (fun b hb => hFF b hb) hX, prNewX 38 8 Ins.cells XT w.heap.size k is hX, prV (fun v => v = .pointer (some ⟨b6, 2, none⟩)), prT]
        (by kernel_rfl) rfl (by kernel_rfl) (by kernel_rfl) (by kernel_rfl) (by decide) (by decide) (by kernel_rfl) ?_ hJ0 HR.out ⟨?_, ?_, ?_, ?_, ?_, ?_, ?_, ?_, ?_, ?_, ?_, ?_, ?_, trivial⟩ ?_
      · intro j W W' u hj hc hu
        rcases j with _ | _ | _ | _ | _ | _ | _ | _ | _ | _ | _ | _ | _ | j
        all_goals first | exact hu | exact absurd rfl hj | exact OneX.chg hu hc hFA (fun _ h => h)
      · refine ⟨fun _ _ b => ?_, (fun h => by cases h), (fun h => by cases h)⟩
        exact ds_field 5 2 _ _ rfl (by kernel_rfl) rfl (fun W => by kernel_rfl) (fun _ => rfl)
      · refine ⟨fun _ _ b => ?_, (fun h => by cases h), (fun h => by cases h)⟩
        exact ds_run (.slice a k cap) (fun A W hJ hf hd => by
          have e0 : A.eval (.tmp 17) = .pointer (some ⟨b6, 2, none⟩) := dep_of (k := 0) (d := 17) ⟨⟨⟨0, .data⟩, by simp, rfl, by kernel_rfl⟩, by kernel_rfl⟩ hd
          have c2 : W.cell? ⟨b6, 2, none⟩ = some (.slice a k cap) := hJ.2.2.1.cell 2
          simp only [execOp, e0]
          simp [go_sem, c2]) (fun _ => rfl)
      · refine ⟨fun _ _ b => ?_, (fun h => by cases h), (fun h => by cases h)⟩
        exact ds_move 0 _ rfl (by kernel_rfl) rfl (fun _ => rfl)
      · refine ⟨fun _ _ b => ?_, (fun h => by cases h), (fun h => by cases h)⟩
        exact ds_pick 19 2 3 (fun _ _ => by kernel_rfl) ⟨⟨⟨2, .data⟩, by simp, rfl, by kernel_rfl⟩, by kernel_rfl⟩ (fun _ _ h => h) rfl hPP (by omega) (fun _ _ h => h) (hJC b) (.inl rfl)
      · refine ⟨fun _ _ b => ?_, (fun h => by cases h), (fun h => by cases h)⟩
        exact ds_add 20 3 1 rfl ⟨⟨⟨3, .data⟩, by simp, rfl, by kernel_rfl⟩, by kernel_rfl⟩ (fun _ _ h => isInt_of_nat h) (fun _ _ h => h)
      · refine ⟨fun _ _ b => ?_, (fun h => by cases h), (fun h => by cases h)⟩
        exact ds_move 0 _ rfl (by kernel_rfl) rfl (fun _ => rfl)
      · refine ⟨fun _ _ b => ?_, (fun h => by cases h), (fun h => by cases h)⟩
        exact ds_move 1 _ rfl (by kernel_rfl) rfl (fun _ => rfl)
      · refine ⟨fun _ _ b => ?_, (fun h => by cases h), (fun h => by cases h)⟩
        exact ds_pickV 22 23 5 6 procs (fun _ _ => by kernel_rfl) ⟨⟨⟨5, .data⟩, by simp, rfl, by kernel_rfl⟩, by kernel_rfl⟩ ⟨⟨⟨6, .data⟩, by simp, rfl, by kernel_rfl⟩, by kernel_rfl⟩ (fun _ _ h => h) (fun _ _ h => h) rfl hPP (by omega) (fun _ _ h => h) (hJC b) (.inl rfl)
      · refine ⟨fun _ _ b => ?_, (fun h => by cases h), (fun h => by cases h)⟩
        exact ds_build _ _ rfl (fun A W hf hd => by
          obtain ⟨n1, h1⟩ := (dep_of (k := 4) (d := 21) ⟨⟨⟨4, .data⟩, by simp, rfl, by kernel_rfl⟩, by kernel_rfl⟩ hd : IsInt _)
          obtain ⟨n7, h7⟩ := isInt_of_nat (dep_of (k := 7) (d := 24) ⟨⟨⟨7, .data⟩, by simp, rfl, by kernel_rfl⟩, by kernel_rfl⟩ hd : IsNat _ _)
          exact ⟨#[(0, .int .i64 10), (1, .int .i64 n1), (2, .int .i64 0), (7, .int .i64 n7)], by simp [eval_const, h1, h7], .agg #[.int .i64 10, .int .i64 n1, .int .i64 0, .int .i64 0, .int .i64 0, .int .i64 0, .int .i64 0, .int .i64 n7], fun W => by kernel_rfl, ⟨10, n1, 0, 0, 0, 0, 0, n7⟩, rfl, trivial⟩)
      · refine ⟨fun _ _ b => ?_, (fun h => by cases h), (fun h => by cases h)⟩
        exact ds_oneX (f := Ins.cells) (X := XT) FF 25 8 rfl ⟨⟨⟨8, .data⟩, by simp, rfl, by kernel_rfl⟩, by kernel_rfl⟩ (fun _ _ h => h) (fun x W => by kernel_rfl) (fun _ _ _ _ => trivial) (fun _ _ h => h) (hJA b) (hFl b)
      · refine ⟨fun _ h => absurd rfl h, fun _ => ?_, (fun h => by cases h)⟩
        exact ds_appendX (f := Ins.cells) (X := XT) FF 18 1 26 9 insEl ins_len (fun _ x _ => ins_one1 x) rfl rfl rfl ⟨⟨⟨1, .data⟩, by simp, rfl, by kernel_rfl⟩, by kernel_rfl⟩ ⟨⟨⟨9, .data⟩, by simp, rfl, by kernel_rfl⟩, by kernel_rfl⟩ (fun _ _ h => h) (fun _ _ h => h) (by omega) (by omega) (fun _ _ _ _ _ => trivial) (fun W h => ⟨h.2.2.2.1 rfl, h.1.size⟩) (fun W h => h.fn lt0) lt0 (fun _ _ h => h) (fun W W' h c => h.ap c)
      · refine ⟨fun _ _ b => ?_, (fun h => by cases h), (fun h => by cases h)⟩
        exact ds_field 5 2 _ _ rfl (by kernel_rfl) rfl (fun W => by kernel_rfl) (fun _ => rfl)
      · refine ⟨fun h => absurd rfl h, (fun h => by cases h), fun _ => ?_⟩
        refine ds_storeX (f := Ins.cells) (X := XT) b6 2 56 #[.int .i64 0, .int .i64 u1, .slice a k cap] 28 11 27 10 rfl ⟨⟨⟨11, .data⟩, by simp, rfl, by kernel_rfl⟩, by kernel_rfl⟩ ⟨⟨⟨10, .data⟩, by simp, rfl, by kernel_rfl⟩, by kernel_rfl⟩ (fun A W a n cp y e1 e2 h c f => by
          obtain ⟨_, _, _, e⟩ := h
          subst e
          simp only [execOp, e1, e2]
          simp [go_sem, c, f]) (fun _ _ h => h) (fun _ _ h => h) (fun W h => h.2.2.1) ⟨_, _, _, rfl⟩ (fun W v h hn hb hne => ?_) (by omega) (.inr (.inl rfl)) (fun _ _ => trivial)
        obtain ⟨a5, cap5, x, rfl, hown, hn5, _⟩ := hn
        exact ⟨chg_set h.1 (by simp only; omega) _, h.2.1.far (by simp only; omega) _, _, is ++ [x], by rw [List.length_append, HL.out]; rfl, hb, owns_far hown hne _⟩
      · rintro vs w5 hJ1 hP hR
        have HI := Lib.hid hJ1
        have HP5 : Hid (RdLe w5 g (P + 2 + 2 * (k + 1))) := Lib.hid (hP.mono (by omega))
        clear hR hJ1 hP hJ0 hX hFl hFA hFF FF hJA hJC hPP
        simp only [putAll, Act.put, List.setIfInBounds_toArray, List.set_cons_zero, List.set_cons_succ]
        obtain ⟨j, rfl⟩ : ∃ j' : Nat, j = j' + 1 := ⟨j - 1, by omega⟩
        go_wp2
        go_roundw
        case rel => exact ⟨j, k + 1, by omega, by go_num, HI.out, HP5.out⟩
        case measure => (simp [intOf]; try omega)
    · obtain rfl : j = 0 := by omega
      have HC := Lib.hid hC
      have HR := Lib.hid hR
      have HZ := Lib.hid hZ
      have HB := Lib.hid hB
      have HO := Lib.hid hO
      have HL := Lib.hid hl
      clear hC hR hZ hB hO hrow nb6 nz hl
      go_wp2_with fail
      refine Calls.mono (pickG (k := 2) HR.out (by omega) (by omega)) ?_
      rintro e w7 ⟨v, rfl, ⟨o, rfl, ho⟩, hr7, hc7⟩
      have ho := ho (by omega)
      have hrow7 := fun b hb => HO.out.lt b hb
      have HB7 := Lib.hid (HB.out.chg hc7 n6)
      have HZ7 := Lib.hid (HZ.out.chg hc7 ne0)
      have HO7 := Lib.hid (owns_chg HO.out hc7 (fun b hb e => by have := (hrow7 b hb).1; omega))
      have HC7 := Lib.hid (HC.out.trans hc7)
      have HR7 := Lib.hid hr7
      have HRow7 := Lib.hid hrow7
      have HN7 := Lib.hid (blk_ne HB7.out HO7.out (by decide))
      have HNZ7 := Lib.hid (blk_ne HZ7.out HO7.out (by decide))
      have d0 : w7.cell? ⟨b6, 0, none⟩ = some (.int .i64 0) := HB7.out.cell 0
      have d1 : w7.cell? ⟨b6, 1, none⟩ = some (.int .i64 u1) := HB7.out.cell 1
      have d2 : w7.cell? ⟨b6, 2, none⟩ = some (.slice a k cap) := HB7.out.cell 2
      have df := fun j => HB7.out.frozen j
      have dl := HB7.out.lt
      have hk10 : k ≤ 4 := by omega
      clear c60 c61 c62 f6 l6 hrow7 hc7 hr7 HC HR HZ HB HO
      by_cases ho0 : o = 0
      · subst ho0
        obtain ⟨v', w3, hrun, o3, g3, hv'⟩ := owns_append_lit (P := Tryz.prog) w7 insEl HO7.out 1 (Ins.cells ⟨11, 0, 0, 1, 2, 0, 0, 0⟩) rfl (ins_one1 _) (by omega) (by omega) HC7.out.size
        obtain ⟨a', cap', rfl⟩ := owns_slice o3
        have hc3 := Chg.of_grownBy g3
        have hrun2 : (Builtin.append_ #[54, 54] 54 #[.slice a k cap, .slice (some ⟨w7.heap.size, 0, none⟩) 1 1]).run Tryz.prog (w7.alloc (.cells #[.int .i64 11, .int .i64 0, .int .i64 0, .int .i64 1, .int .i64 2, .int .i64 0, .int .i64 0, .int .i64 0] 38)) = .ok (.slice a' (k + 1) cap') w3 := hrun
        have HRU := Lib.hid hrun2
        have HB3 := Lib.hid (HB7.out.chg hc3 HN7.out)
        have HZ3 := Lib.hid (HZ7.out.chg hc3 HNZ7.out)
        have HO3 : Hid (w3.ownsRow w.heap.size 38 8 (.slice a' (k + 1) cap') (k + 1) ((is ++ ([⟨11, 0, 0, 1, 2, 0, 0, 0⟩] : List Ins)).flatMap Ins.cells)) := Lib.hid (by rw [List.flatMap_append, List.flatMap_cons, List.flatMap_nil, List.append_nil]; exact o3)
        have HC3 := Lib.hid (chg_own HC7.out hc3 (fun b hb => (HRow7.out b hb).1))
        have HR3 := Lib.hid (rd_own HR7.out hc3 (fun b hb => (HRow7.out b hb).1) lt0)
        clear hrun hrun2 o3 g3 hc3 hv' HN7 HNZ7
        have e2 : w3.cell? ⟨b6, 2, none⟩ = some (.slice a k cap) := HB3.out.cell 2
        have ef := fun j => HB3.out.frozen j
        have el := HB3.out.lt
        go_wp2_with (at_builtin; refine wpList_append_run rfl _ _ rfl rfl rfl rfl HRU.out ?_)
        refine wp_let_c ?_
        intro E hE
        have hb' := blk_ne HB3.out HO3.out (by decide)
        have HRow7 := Lib.hid (fun b hb => HO3.out.lt b hb)
        have HB7 : Hid (Blk E b6 56 #[.int .i64 0, .int .i64 u1, .slice a' (k + 1) cap']) := Lib.hid (by rw [hE]; exact HB3.out.set_ 2 _)
        have HZ7 := Lib.hid (show Blk E w.heap.size 56 Zp from by rw [hE]; exact HZ3.out.far (by simp only; omega) _)
        have HO7 := Lib.hid (show E.ownsRow w.heap.size 38 8 (.slice a' (k + 1) cap') (k + 1) ((is ++ ([⟨11, 0, 0, 1, 2, 0, 0, 0⟩] : List Ins)).flatMap Ins.cells) from by rw [hE]; exact owns_far HO3.out hb' _)
        have HC7 := Lib.hid (show ChgG g w E from by rw [hE]; exact chg_set HC3.out (by simp only; omega) _)
        have HR7 := Lib.hid (show RdLe E g (P + 2 + 2 * k + 1) from by rw [hE]; exact rd_set HR3.out (by simp only; omega) _)
        clear hb' hE e2 ef el HRU HB3 HZ3 HO3 HC3 HR3 d0 d1 d2 df dl
        have HN7 := Lib.hid (blk_ne HB7.out HO7.out (by decide))
        have HNZ7 := Lib.hid (blk_ne HZ7.out HO7.out (by decide))
        have d0 : E.cell? ⟨b6, 0, none⟩ = some (.int .i64 0) := HB7.out.cell 0
        have d1 : E.cell? ⟨b6, 1, none⟩ = some (.int .i64 u1) := HB7.out.cell 1
        have d2 : E.cell? ⟨b6, 2, none⟩ = some (.slice a' (k + 1) cap') := HB7.out.cell 2
        go_region_held3 (fun W => W.cell? ⟨b6, 0, none⟩ = some (.int .i64 0) ∧ W.cell? ⟨b6, 1, none⟩ = some (.int .i64 u1) ∧ W.cell? ⟨b6, 2, none⟩ = some (.slice a' (k + 1) cap')) (first | assumption | exact ⟨d0, d1, d2⟩ | exact hs8 | exact hs9 | exact ⟨(cell_far3 nzb).trans hs9.1, (cell_far3 nzb).trans hs9.2.1, (cell_far3 nzb).trans hs9.2.2⟩ | exact ⟨(cell_far1 nzb).trans hs9.1, (cell_far1 nzb).trans hs9.2.1, (cell_far1 nzb).trans hs9.2.2⟩)
          (first
          | (go_at_call 40; refine Calls.mono (pickG (k := 4) (rd_drew HR7.out) (by omega) (by omega)) ?_; rintro e w8 ⟨v8, rfl, ⟨q8, rfl, hq8⟩, hr8, hc8⟩; have hcc8 : ChgG g E w8 := ChgG.trans (chg_drew (ChgG.refl _ _)) hc8; have hb8 := HB7.out.chg hcc8 n6; have hs8 : w8.cell? ⟨b6, 0, none⟩ = some (.int .i64 0) ∧ w8.cell? ⟨b6, 1, none⟩ = some (.int .i64 u1) ∧ w8.cell? ⟨b6, 2, none⟩ = some (.slice a' (k + 1) cap') := ⟨hb8.cell 0, hb8.cell 1, hb8.cell 2⟩; have HX8 := Lib.hid (And.intro hcc8 hr8); clear hcc8 hb8 hr8 hc8 hq8)
          | (go_at_call 133; refine Calls.mono (endG (i := ⟨12, 0, (q8 : Int), 0, 0, 0, 0, 0⟩) (owns_chg HO7.out HX8.out.1 (fun b hb e => by have := (HRow7.out b hb).1; omega)) (by omega) (Nat.le_trans HC7.out.size HX8.out.1.size)) ?_; rintro e w9 ⟨v9, rfl, o9, c9⟩; obtain ⟨a9, cap9, rfl⟩ := owns_slice o9; have hb9 := (HB7.out.chg HX8.out.1 n6).chg c9 HN7.out; have hz9 := (HZ7.out.chg HX8.out.1 ne0).chg c9 HNZ7.out; have hs9 : w9.cell? ⟨b6, 0, none⟩ = some (.int .i64 0) ∧ w9.cell? ⟨b6, 1, none⟩ = some (.int .i64 u1) ∧ w9.cell? ⟨b6, 2, none⟩ = some (.slice a' (k + 1) cap') := ⟨hb9.cell 0, hb9.cell 1, hb9.cell 2⟩; have z0 : w9.cell? ⟨w.heap.size, 0, none⟩ = some (.int .i64 0) := hz9.cell 0; have z1 : w9.cell? ⟨w.heap.size, 1, none⟩ = some (.int .i64 0) := hz9.cell 1; have z2 : w9.cell? ⟨w.heap.size, 2, none⟩ = some (.slice none 0 0) := hz9.cell 2; have zf := fun j => hz9.frozen j; have zl := hz9.lt; have HX9 := Lib.hid (And.intro o9 c9); clear o9 c9 hb9 hz9))
        go_wp2
        refine bodyPost_ret (by simp [results, Tryz.results116, go_sem, z0, z1, z2, zl]; try rfl) rfl ?_
        obtain ⟨o9, c9⟩ := HX9.out
        have hno : (Value.slice a9 ((k + 1) + 1) cap9).ownBlock ≠ some w.heap.size := fun e => by
          have hz := (HZ7.out.chg HX8.out.1 ne0).chg c9 HNZ7.out
          exact blk_ne hz o9 (by decide) e
        refine ⟨_, _, _, (is ++ ([⟨11, 0, 0, 1, 2, 0, 0, 0⟩] : List Ins)) ++ [⟨12, 0, (q8 : Int), 0, 0, 0, 0, 0⟩], rfl, ?_, by rw [List.length_append, List.length_append, HL.out]; simp only [List.length_cons, List.length_nil]; omega, ?_, ?_⟩
        · rw [List.length_append, List.length_append, HL.out]
          exact owns_far (owns_far (owns_far o9 hno _) hno _) hno _
        · exact (rd_set (rd_set (rd_set (rd_own HX8.out.2 c9 (fun b hb => (HRow7.out b hb).1) lt0) (by simp only; omega) _) (by simp only; omega) _) (by simp only; omega) _).mono (by omega)
        · exact chg_set (chg_set (chg_set (chg_own (HC7.out.trans HX8.out.1) c9 (fun b hb => (HRow7.out b hb).1)) (Nat.le_refl _) _) (Nat.le_refl _) _) (Nat.le_refl _) _
      · have q0 : ((o : Int) == 0) = false := by simp; omega
        go_wp2_with fail
        refine wp_let_c ?_
        intro E hE
        subst hE
        go_region_held3 (fun W => W.cell? ⟨b6, 0, none⟩ = some (.int .i64 0) ∧ W.cell? ⟨b6, 1, none⟩ = some (.int .i64 u1) ∧ W.cell? ⟨b6, 2, none⟩ = some (.slice a k cap)) (first | assumption | exact ⟨d0, d1, d2⟩ | exact hs8 | exact hs9 | exact ⟨(cell_far3 nzb).trans hs9.1, (cell_far3 nzb).trans hs9.2.1, (cell_far3 nzb).trans hs9.2.2⟩ | exact ⟨(cell_far1 nzb).trans hs9.1, (cell_far1 nzb).trans hs9.2.1, (cell_far1 nzb).trans hs9.2.2⟩)
          (first
          | (go_at_call 40; refine Calls.mono (pickG (k := 4) (rd_drew HR7.out) (by omega) (by omega)) ?_; rintro e w8 ⟨v8, rfl, ⟨q8, rfl, hq8⟩, hr8, hc8⟩; have hcc8 : ChgG g E w8 := ChgG.trans (chg_drew (ChgG.refl _ _)) hc8; have hb8 := HB7.out.chg hcc8 n6; have hs8 : w8.cell? ⟨b6, 0, none⟩ = some (.int .i64 0) ∧ w8.cell? ⟨b6, 1, none⟩ = some (.int .i64 u1) ∧ w8.cell? ⟨b6, 2, none⟩ = some (.slice a k cap) := ⟨hb8.cell 0, hb8.cell 1, hb8.cell 2⟩; have HX8 := Lib.hid (And.intro hcc8 hr8); clear hcc8 hb8 hr8 hc8 hq8)
          | (go_at_call 133; refine Calls.mono (endG (i := ⟨12, 0, (q8 : Int), 0, 0, 0, 0, 0⟩) (owns_chg HO7.out HX8.out.1 (fun b hb e => by have := (HRow7.out b hb).1; omega)) (by omega) (Nat.le_trans HC7.out.size HX8.out.1.size)) ?_; rintro e w9 ⟨v9, rfl, o9, c9⟩; obtain ⟨a9, cap9, rfl⟩ := owns_slice o9; have hb9 := (HB7.out.chg HX8.out.1 n6).chg c9 HN7.out; have hz9 := (HZ7.out.chg HX8.out.1 ne0).chg c9 HNZ7.out; have hs9 : w9.cell? ⟨b6, 0, none⟩ = some (.int .i64 0) ∧ w9.cell? ⟨b6, 1, none⟩ = some (.int .i64 u1) ∧ w9.cell? ⟨b6, 2, none⟩ = some (.slice a k cap) := ⟨hb9.cell 0, hb9.cell 1, hb9.cell 2⟩; have z0 : w9.cell? ⟨w.heap.size, 0, none⟩ = some (.int .i64 0) := hz9.cell 0; have z1 : w9.cell? ⟨w.heap.size, 1, none⟩ = some (.int .i64 0) := hz9.cell 1; have z2 : w9.cell? ⟨w.heap.size, 2, none⟩ = some (.slice none 0 0) := hz9.cell 2; have zf := fun j => hz9.frozen j; have zl := hz9.lt; have HX9 := Lib.hid (And.intro o9 c9); clear o9 c9 hb9 hz9))
        go_wp2
        refine bodyPost_ret (by simp [results, Tryz.results116, go_sem, z0, z1, z2, zl]; try rfl) rfl ?_
        obtain ⟨o9, c9⟩ := HX9.out
        have hno : (Value.slice a9 (k + 1) cap9).ownBlock ≠ some w.heap.size := fun e => by
          have hz := (HZ7.out.chg HX8.out.1 ne0).chg c9 HNZ7.out
          exact blk_ne hz o9 (by decide) e
        refine ⟨_, _, _, is ++ [⟨12, 0, (q8 : Int), 0, 0, 0, 0, 0⟩], rfl, ?_, by rw [List.length_append, HL.out]; simp only [List.length_cons, List.length_nil]; omega, ?_, ?_⟩
        · rw [List.length_append, HL.out]
          exact owns_far (owns_far (owns_far o9 hno _) hno _) hno _
        · exact (rd_set (rd_set (rd_set (rd_own HX8.out.2 c9 (fun b hb => (HRow7.out b hb).1) lt0) (by simp only; omega) _) (by simp only; omega) _) (by simp only; omega) _).mono (by omega)
        · exact chg_set (chg_set (chg_set (chg_own (HC7.out.trans HX8.out.1) c9 (fun b hb => (HRow7.out b hb).1)) (Nat.le_refl _) _) (Nat.le_refl _) _) (Nat.le_refl _) _
end Go.Proofs.YtcdfomoglkhboaaGreatDoor
