/- The draw of a procedure. No condition. -/
import Derived.Test.YtcdfomoglkhboaaGreatDoorDrI
import Derived.Test.YtcdfomoglkhboaaGreatDoorDrQ
import Derived.Deep.RegionWith
namespace Go.Proofs.YtcdfomoglkhboaaGreatDoor
open Go.RowKit
set_option linter.unusedVariables false
set_option linter.unusedSimpArgs false
attribute [local go_sem] dg_cell dg_frozen dg_lt dg_lt1 dg_lt2 dg_ne dg_ne1 dg_ne2 dg_new dg_wen lt_s2 lt_s3 lt_s4 lt_s5 lt_s6

theorem cell_far1 {w : World} {t b o o1 : Nat} {u1 : Value} (h : ¬ t = b) : (w.setCell ⟨t, o1, none⟩ u1).cell? ⟨b, o, none⟩ = w.cell? ⟨b, o, none⟩ := World.cell?_setCell_far _ _ _ _ h
theorem cell_far3 {w : World} {t b o o1 o2 o3 : Nat} {u1 u2 u3 : Value} (h : ¬ t = b) : (((w.setCell ⟨t, o1, none⟩ u1).setCell ⟨t, o2, none⟩ u2).setCell ⟨t, o3, none⟩ u3).cell? ⟨b, o, none⟩ = w.cell? ⟨b, o, none⟩ := (cell_far1 h).trans ((cell_far1 h).trans (cell_far1 h))
theorem calls_let {P : Program} {f : FuncId} {args : Array Value} {Rr : Ending → World → Prop} {W : World} (h : ∀ E, E = W → Calls P f args E Rr) : Calls P f args W Rr := h W rfl
/-- A procedure in memory of its own was drawn. -/
def RetPrc (g P base : Nat) (w : World) (e : Ending) (w' : World) : Prop :=
  ∃ lo hi v is, e = .returned (.agg #[.int .i64 lo, .int .i64 hi, v]) ∧ w'.ownsRow base 38 8 v (List.length is) (is.flatMap Ins.cells) ∧ (1 ≤ is.length ∧ is.length ≤ 12) ∧ RdLe w' g P ∧ ChgG g w w'
abbrev Zp : Array Value := #[.int .i64 0, .int .i64 0, .slice none 0 0]
/-- What stands while a procedure is drawn: its box at b. -/
def PI (g P : Nat) (w : World) (b : Nat) (y0 y1 : Int) (k : Nat) (wr : World) : Prop :=
  ChgG g w wr ∧ RdLe wr g (P + 24 + 27 * k) ∧ Blk wr w.heap.size 56 Zp ∧ ∃ (v : Value) (is : List Ins), is.length = k ∧ Blk wr b 56 #[.int .i64 y0, .int .i64 y1, v] ∧ wr.ownsRow w.heap.size 38 8 v k (is.flatMap Ins.cells)
theorem PI.cg {g P : Nat} {w : World} {b : Nat} {y0 y1 : Int} {k : Nat} {E E' : World} (h : PI g P w b y0 y1 k E) (c : ChgG g E E') (r : RdLe E' g (P + 24 + 27 * k)) (hg : g < w.heap.size) (hb : ¬ b = g) : PI g P w b y0 y1 k E' := by
  obtain ⟨h1, _, h3, v, is, h4, h5, h6⟩ := h
  exact ⟨h1.trans c, r, h3.chg c (by omega), v, is, h4, h5.chg c hb, owns_chg h6 c (fun j hj e => by have := (h6.lt j hj).1; omega)⟩
set_option maxRecDepth 100000 in
set_option maxHeartbeats 8000000 in
theorem procG {g P : Nat} {procs : Int} {w : World} (h : RdLe w g P) (hp : P + 400 ≤ 1099511627776) (hk1 : procs ≤ 1099511627776) :
    Calls Tryz.prog 117 #[.pointer (some ⟨g, 0, none⟩), .int .i64 procs] w (RetPrc g (P + 400) w.heap.size w) := by
  have lt0 := h.lt
  obtain ⟨ne0, ne1, ne2, ne3, ne4, ne5⟩ : ¬ w.heap.size = g ∧ ¬ w.heap.size + 1 = g ∧ ¬ w.heap.size + 1 + 1 = g ∧ ¬ w.heap.size + 1 + 1 + 1 = g ∧ ¬ w.heap.size + 1 + 1 + 1 + 1 = g ∧ ¬ w.heap.size + 1 + 1 + 1 + 1 + 1 = g := by omega
  have HP := Lib.hid h; clear h
  go_enter Tryz.func117, Tryz.ntmps117
  go_wp2_with fail
  refine Calls.mono (itvG (n := 99999) (g_rd) ?_ ?_) ?_
  · omega
  · omega
  rintro e w' ⟨v, rfl, ⟨lo, hi, rfl⟩, hr, hc⟩
  (first | (obtain ⟨x1, hxx⟩ := extg_col hc hr (dg_gt _); subst hxx) | (obtain ⟨x1, hxx⟩ := extg_of hc hr g_sz; subst hxx))
  clear hc hr
  have hZ1 : Blk (extg x1) w.heap.size 56 Zp := (Blk.new w _ _).chg x1.chg ne0
  go_wp2_with fail
  refine Calls.mono (pickG (k := 3) (g_rd) ?_ ?_) ?_
  · omega
  · omega
  rintro e w' ⟨v, rfl, ⟨k, rfl, hk⟩, hr, hc⟩
  have hZ2 : Blk w' w.heap.size 56 Zp := (hZ1.alloc _).chg hc ne0
  have hB2 : BoxI (extg x1).heap.size w' := (BoxI.new lo hi).chg hc (dg_ne x1)
  have hC2 : ChgG g w w' := ChgG.trans (chg_al (chg_ext (chg_al (ChgG.refl g w) _) x1) _) hc
  have s5 : w.heap.size + 1 ≤ (extg x1).heap.size := by have := dg_size x1; simpa using this
  have n5 := dg_ne x1
  generalize (extg x1).heap.size = b5 at *
  have l5 := hB2.lt
  obtain ⟨e0, e1, hb5⟩ := hB2
  have c50 : w'.cell? ⟨b5, 0, none⟩ = some (.int .i64 e0) := hb5.cell 0
  have c51 : w'.cell? ⟨b5, 1, none⟩ = some (.int .i64 e1) := hb5.cell 1
  have f5 := fun j => hb5.frozen j
  have hk := hk (by omega)
  have HZ := Lib.hid hZ2
  have HC := Lib.hid hC2
  have HR := Lib.hid hr
  have hb5 := Lib.hid hb5
  clear hZ1 hZ2 hC2 hc hr HP
  have mid : ∀ (y0 y1 : Int) (E : World) (b6 : Nat), ChgG g w E → RdLe E g (P + 22) → Blk E w.heap.size 56 Zp → Blk E b6 56 #[.int .i64 y0, .int .i64 y1, .slice none 0 0] → w.heap.size < b6 → PI g P w b6 y0 y1 0 E := fun y0 y1 E b6 h1 h2 h3 h4 h5 => ⟨h1, h2.mono (by omega), h3, .slice none 0 0, [], rfl, h4, World.ownsRow_nil _ _ _ _⟩
  by_cases hk0 : k = 0
  · subst hk0
    have hcx := HC.out
    have hzx := HZ.out
    have hrx := HR.out
    go_wp2_with fail
    obtain ⟨b6, hb6⟩ : ∃ b, w'.heap.size = b := ⟨_, rfl⟩
    rw [hb6]
    refine calls_let ?_
    intro E hE
    have h6 : w.heap.size < b6 := by omega
    have hr0 : RdLe E g (P + 22) := by rw [hE]; exact RdLe.mono (g_rd) (by omega)
    have hpi : PI g P w b6 e0 e1 0 E := mid _ _ _ _ (by rw [hE]; exact g_chg) hr0 (by rw [hE]; (repeat (first | with_reducible assumption | with_reducible exact Blk.new' (by simp only [World.size_alloc, World.size_drew, World.size_setCell]) | with_reducible refine Blk.alloc ?_ _ | with_reducible refine Blk.grew ?_ (grew_d (Below.refl _ _)) | with_reducible refine Blk.far ?_ (by first | assumption | (simp only; omega)) _))) (by rw [hE]; subst hb6; (repeat (first | with_reducible assumption | with_reducible exact Blk.new' (by simp only [World.size_alloc, World.size_drew, World.size_setCell]) | with_reducible refine Blk.alloc ?_ _ | with_reducible refine Blk.grew ?_ (grew_d (Below.refl _ _)) | with_reducible refine Blk.far ?_ (by first | assumption | (simp only; omega)) _))) h6
    clear hE
    refine Calls.mono (pickG (k := 9) hr0 ?_ ?_) ?_
    · omega
    · omega
    rintro e w6 ⟨v, rfl, ⟨q, rfl, hq⟩, hr6, hc6⟩
    have hq := hq (by omega)
    have HPI := Lib.hid (hpi.cg hc6 (hr6.mono (by omega)) lt0 (by omega))
    clear hpi hr0 hr6 hc6 mid
    obtain ⟨M1, hM1⟩ : ∃ m : Nat, m = q + 1 := ⟨_, rfl⟩
    obtain ⟨M, hM⟩ : ∃ m : Nat, m = q + 2 := ⟨_, rfl⟩
    have wM : IntKind.i64.wrap (2 + (q : Int)) = (M : Int) := by rw [show 2 + (q : Int) = (M : Int) from by omega]; first | exact IntWalk.i64_in (by omega) (by omega) | exact IntWalk.i64_in _ (by omega) (by omega) | go_unwrap
    have wM1 : IntKind.i64.wrap ((M : Int) - 1) = (M1 : Int) := by rw [show (M : Int) - 1 = (M1 : Int) from by omega]; first | exact IntWalk.i64_in (by omega) (by omega) | exact IntWalk.i64_in _ (by omega) (by omega) | go_unwrap
    have hMb : M ≤ 11 := by omega
    have hM1b : M1 ≤ 10 := by omega
    clear hM hM1
    go_wp2
    go_loopw [8] (fun i wr => ∃ k : Nat, k ≤ M1 ∧ i = .int .i64 k ∧ PI g P w b6 e0 e1 k wr) (fun i _ => M1 - (intOf i).toNat)
    case atStart => exact ⟨0, Nat.zero_le _, rfl, HPI.out⟩
    case round =>
      clear HPI
      obtain ⟨k, hk, rfl, hC, hR, hZ, v, is, hl, hB, hO⟩ := hrel
      obtain ⟨a, cap, rfl⟩ := owns_slice hO
      have c60 : wr.cell? ⟨b6, 0, none⟩ = some (.int .i64 e0) := hB.cell 0
      have c61 : wr.cell? ⟨b6, 1, none⟩ = some (.int .i64 e1) := hB.cell 1
      have c62 : wr.cell? ⟨b6, 2, none⟩ = some (.slice a k cap) := hB.cell 2
      have f6 := fun j => hB.frozen j
      have l6 := hB.lt
      have n6 : ¬ b6 = g := by omega
      have hrow := fun b hb => hO.lt b hb
      have nb6 := blk_ne hB hO (by decide)
      have nz := blk_ne hZ hO (by decide)
      by_cases hlt : k < M1
      · have HC := Lib.hid hC
        have HR := Lib.hid hR
        have HZ := Lib.hid hZ
        have HB := Lib.hid hB
        have HO := Lib.hid hO
        have HRow := Lib.hid hrow
        have HN := Lib.hid nb6
        have HNZ := Lib.hid nz
        have HL := Lib.hid hl
        clear hC hR hZ hB hO hrow nb6 nz hl
        go_wp2_with fail
        have no9 : ∀ (L : Array Bool) (ops : Array Oper), True := fun _ _ => trivial
        refine wp_region_invL 61 (PII g (P + 24 + 27 * k) w b6 e0 e1 k is a cap)
          (fun i W v => match i with | 0 => v = .pointer (some ⟨b6, 2, none⟩) | 1 => v = .slice a k cap | 2 => v = .pointer (some ⟨g, 0, none⟩) | 3 => v = .int .i64 procs | 4 => v = .int .i64 (M : Int) | 5 => IsIns v | 6 => OneI (fun b => b = g ∨ b = b6 ∨ b = w.heap.size ∨ (Value.slice a k cap).ownBlock = some b) W v | 7 => NewI w.heap.size (fun b => b = b6 ∨ b = w.heap.size) k is W v | 8 => v = .pointer (some ⟨b6, 2, none⟩) | _ => True)
          (by kernel_rfl) rfl (by kernel_rfl) ⟨chg_drew HC.out, (rd_drew HR.out).mono (by omega), by kernel_rfl, HZ.out, fun _ => HO.out, fun _ => HB.out, fun h => by cases h⟩ ⟨?_, ?_, ?_, ?_, ?_, ?_, ?_, ?_, ?_, ?_, trivial⟩ ?_
        · intro L A W hs hi hL hcl hI hf hd
          have e : A.eval (.tmp 6) = .pointer (some ⟨b6, 0, none⟩) := hf 6 (hasNo_spec (by kernel_rfl))
          have hrun : ∀ W, (Instr.fieldAt 56 (.pointer (some ⟨b6, 0, none⟩)) 2).run Tryz.prog W = .ok (.pointer (some ⟨b6, 2, none⟩)) W := fun W => by kernel_rfl
          refine op_val (v := .pointer (some ⟨b6, 2, none⟩)) (w' := W) ?_ ⟨_, rfl, rfl, hI.keep (by omega) hL (by omega) (by omega), fun _ _ _ h => h⟩
          simp only [execOp, e]
          simp [hrun, Result.andThen]
        · intro L A W hs hi hL hcl hI hf hd
          have h9 : L.getD 9 false = false := by
            cases h : L.getD 9 false
            · rfl
            · have h7 := hcl 9 _ ⟨7, .data⟩ rfl h (by simp) rfl
              have h1 := hcl 7 _ ⟨1, .data⟩ rfl h7 (by simp) rfl
              rw [no_list hs (by omega) hL] at h1
              cases h1
          have e : A.eval (.tmp 39) = .pointer (some ⟨b6, 2, none⟩) := (hd ⟨0, .data⟩ (by simp) rfl).2 39 (by kernel_rfl)
          have hc2 : W.cell? ⟨b6, 2, none⟩ = some (.slice a k cap) := (hI.b h9).cell 2
          refine op_val (v := .slice a k cap) (w' := W) ?_ ⟨_, rfl, rfl, hI.keep (by omega) hL (by omega) (by omega), fun _ _ _ h => h⟩
          simp only [execOp, e]
          simp [go_sem, hc2]
        · intro L A W hs hi hL hcl hI hf hd
          have e : A.eval (.tmp 0) = .pointer (some ⟨g, 0, none⟩) := hf 0 (hasNo_spec (by kernel_rfl))
          exact op_val (v := .pointer (some ⟨g, 0, none⟩)) (w' := W) (by simp only [execOp, e]; rfl) ⟨_, rfl, rfl, hI.keep (by omega) hL (by omega) (by omega), fun _ _ _ h => h⟩
        · intro L A W hs hi hL hcl hI hf hd
          have e : A.eval (.tmp 1) = .int .i64 procs := hf 1 (hasNo_spec (by kernel_rfl))
          exact op_val (v := .int .i64 procs) (w' := W) (by simp only [execOp, e]; rfl) ⟨_, rfl, rfl, hI.keep (by omega) hL (by omega) (by omega), fun _ _ _ h => h⟩
        · intro L A W hs hi hL hcl hI hf hd
          have e : A.eval (.tmp 7) = .int .i64 (M : Int) := hf 7 (hasNo_spec (by kernel_rfl))
          exact op_val (v := .int .i64 (M : Int)) (w' := W) (by simp only [execOp, e]; rfl) ⟨_, rfl, rfl, hI.keep (by omega) hL (by omega) (by omega), fun _ _ _ h => h⟩
        · intro L A W hs hi hL hcl hI hf hd
          have h9 : L.getD 9 false = false := by
            cases h : L.getD 9 false
            · rfl
            · have h7 := hcl 9 _ ⟨7, .data⟩ rfl h (by simp) rfl
              have h1 := hcl 7 _ ⟨6, .data⟩ rfl h7 (by simp) rfl
              have h1 := hcl 6 _ ⟨5, .data⟩ rfl h1 (by simp) rfl
              rw [no_list hs (by omega) hL] at h1
              cases h1
          have e1 : A.eval (.tmp 41) = .pointer (some ⟨g, 0, none⟩) := (hd ⟨2, .data⟩ (by simp) rfl).2 41 (by kernel_rfl)
          have e2 : A.eval (.tmp 42) = .int .i64 procs := (hd ⟨3, .data⟩ (by simp) rfl).2 42 (by kernel_rfl)
          have e3 : A.eval (.tmp 43) = .int .i64 (M : Int) := (hd ⟨4, .data⟩ (by simp) rfl).2 43 (by kernel_rfl)
          have hcl2 := costL_le (cOf cR) L
          have hca : costAll (cOf cR) 10 = 27 := by kernel_rfl
          rw [hI.s, hca] at hcl2
          refine op_enter (f := 90) (vals := #[A.eval (.tmp 41), A.eval (.tmp 42), A.eval (.tmp 43)]) (by kernel_rfl) ?_
          rw [e1, e2, e3]
          refine Calls.mono (insG hI.r (by omega) hk1 (by omega)) ?_
          rintro e W' ⟨v, rfl, hv, hr', hc'⟩
          exact ⟨v, rfl, v, rfl, hv, hI.go (by omega) hL (by omega) (by omega) h9 hc' hr' lt0 h6, fun j u hj h => by rcases j with _ | _ | _ | _ | _ | _ | _ | _ | _ | j <;> first | exact h | exact OneI.chg h hc' (fun b e => .inl e) | exact NewI.chg h hc' (fun b hb e => by omega) | exact absurd rfl hj⟩
        · intro L A W hs hi hL hcl hI hf hd
          have h7 : L.getD 7 false = false := by
            cases h : L.getD 7 false
            · rfl
            · have h1 := hcl 7 _ ⟨6, .data⟩ rfl h (by simp) rfl
              rw [no_list hs (by omega) hL] at h1
              cases h1
          have h9 : L.getD 9 false = false := by
            cases h : L.getD 9 false
            · rfl
            · have h7' := hcl 9 _ ⟨7, .data⟩ rfl h (by simp) rfl
              rw [h7] at h7'
              cases h7'
          obtain ⟨op, d, ia, ib, rel, lo2, hi2, to, e⟩ : IsIns (A.eval (.tmp 44)) := (hd ⟨5, .data⟩ (by simp) rfl).2 44 (by kernel_rfl)
          have hrun : ∀ W : World, (Instr.buildSlice 54 1 #[(0, .agg #[.int .i64 op, .int .i64 d, .int .i64 ia, .int .i64 ib, .int .i64 rel, .int .i64 lo2, .int .i64 hi2, .int .i64 to])]).run Tryz.prog W = .ok (.slice (some ⟨W.heap.size, 0, none⟩) 1 1) (W.alloc (.cells #[.int .i64 op, .int .i64 d, .int .i64 ia, .int .i64 ib, .int .i64 rel, .int .i64 lo2, .int .i64 hi2, .int .i64 to] 38)) := fun W => by kernel_rfl
          have ho := hI.o h7
          have hbl := (hI.b h9).lt
          have hzl := hI.z.lt
          have hgl := hI.r.lt
          refine op_val (v := .slice (some ⟨W.heap.size, 0, none⟩) 1 1) (w' := W.alloc (.cells #[.int .i64 op, .int .i64 d, .int .i64 ia, .int .i64 ib, .int .i64 rel, .int .i64 lo2, .int .i64 hi2, .int .i64 to] 38)) ?_ ⟨_, rfl, ⟨⟨op, d, ia, ib, rel, lo2, hi2, to⟩, W.heap.size, rfl, Blk.new _ _ _, ?_⟩, hI.go (by omega) hL (by omega) (by omega) h9 (ChgG.of_grew (grew_al (Below.refl _ _) _)) ((rd_al hI.r _).mono (by omega)) lt0 h6, fun j u hj h => by rcases j with _ | _ | _ | _ | _ | _ | _ | _ | _ | j <;> first | exact h | exact OneI.chg h (ChgG.of_grew (g := g) (grew_al (Below.refl _ _) _)) (fun b e => .inl e) | exact NewI.chg h (ChgG.of_grew (g := g) (grew_al (Below.refl _ _) _)) (fun b hb e => by omega) | exact absurd rfl hj⟩
          · simp only [execOp, List.map_toArray, List.map_cons, List.map_nil, e]
            simp [hrun, Result.andThen]
          · rintro (h | h | h | h)
            · omega
            · omega
            · omega
            · have := (ho.lt _ h).2
              omega
        · intro L A W hs hi hL hcl hI hf hd
          have h7 := no_list hs (by omega) hL
          have h9 : L.getD 9 false = false := by
            cases h : L.getD 9 false
            · rfl
            · have h7' := hcl 9 _ ⟨7, .data⟩ rfl h (by simp) rfl
              rw [h7] at h7'
              cases h7'
          have e1 : A.eval (.tmp 40) = .slice a k cap := (hd ⟨1, .data⟩ (by simp) rfl).2 40 (by kernel_rfl)
          obtain ⟨i, b, e2, hb, hF⟩ : OneI (fun b => b = g ∨ b = b6 ∨ b = w.heap.size ∨ (Value.slice a k cap).ownBlock = some b) W (A.eval (.tmp 45)) := (hd ⟨6, .data⟩ (by simp) rfl).2 45 (by kernel_rfl)
          have ho := hI.o h7
          have hrd : Rd W (some ⟨b, 0, none⟩) 1 8 i.cells := ⟨rfl, .inr ⟨b, 0, rfl, fun j u hu => by rw [Nat.zero_add]; exact (hb.cell j).trans (by simpa using hu)⟩⟩
          obtain ⟨v', W', hrun, hown, hgr, hv'⟩ := owns_append (P := Tryz.prog) W insEl ho (some ⟨b, 0, none⟩) 1 1 i.cells hrd (ins_one1 _) (by omega) (by omega) hI.c.size
          obtain ⟨a5, cap5, rfl⟩ := owns_slice hown
          have hch := Chg.of_grownBy hgr
          have hbl := (hI.b h9).lt
          have hzl := hI.z.lt
          refine op_append (.tmp 40) (.tmp 45) rfl rfl e1 e2 hrun ⟨_, rfl, ⟨a5, cap5, i, rfl, ?_, ?_⟩, hI.app hL h7 h9 hch lt0, fun j u hj h => by rcases j with _ | _ | _ | _ | _ | _ | _ | _ | _ | j <;> first | exact h | exact OneI.chg h hch (fun b e => .inr (.inr (.inr e))) | exact NewI.chg h hch (fun b hb e => by cases e; exact absurd rfl hj) | exact absurd rfl hj⟩
          · rw [List.flatMap_append, List.flatMap_cons, List.flatMap_nil, List.append_nil]
            exact hown
          · rintro b0 hb0 hb1
            rcases hv' with h | h
            · rw [h] at hb0
              rcases hb1 with rfl | rfl
              · exact blk_ne (hI.b h9) ho (by decide) hb0
              · exact blk_ne hI.z ho (by decide) hb0
            · rw [h, Option.some.injEq] at hb0
              omega
        · intro L A W hs hi hL hcl hI hf hd
          have e : A.eval (.tmp 6) = .pointer (some ⟨b6, 0, none⟩) := hf 6 (hasNo_spec (by kernel_rfl))
          have hrun : ∀ W, (Instr.fieldAt 56 (.pointer (some ⟨b6, 0, none⟩)) 2).run Tryz.prog W = .ok (.pointer (some ⟨b6, 2, none⟩)) W := fun W => by kernel_rfl
          refine op_val (v := .pointer (some ⟨b6, 2, none⟩)) (w' := W) ?_ ⟨_, rfl, rfl, hI.keep (by omega) hL (by omega) (by omega), fun _ _ _ h => h⟩
          simp only [execOp, e]
          simp [hrun, Result.andThen]
        · intro L A W hs hi hL hcl hI hf hd
          have h9 := no_list hs (by omega) hL
          have h7 : L.getD 7 false = true := (hd ⟨7, .data⟩ (by simp) rfl).1
          have e1 : A.eval (.tmp 47) = .pointer (some ⟨b6, 2, none⟩) := (hd ⟨8, .data⟩ (by simp) rfl).2 47 (by kernel_rfl)
          obtain ⟨a5, cap5, i, e2, hown, hn5⟩ : NewI w.heap.size (fun b => b = b6 ∨ b = w.heap.size) k is W (A.eval (.tmp 46)) := (hd ⟨7, .data⟩ (by simp) rfl).2 46 (by kernel_rfl)
          have hB9 := hI.b h9
          have cc : W.cell? ⟨b6, 2, none⟩ = some (.slice a k cap) := hB9.cell 2
          have ff : W.frozen? ⟨b6, 2, none⟩ = false := hB9.frozen 2
          have hch : Chg (fun b => b = b6) W (W.setCell ⟨b6, 2, none⟩ (.slice a5 (k + 1) cap5)) := chg1 (Chg.refl _ _) _
          refine op_skip (w' := W.setCell ⟨b6, 2, none⟩ (.slice a5 (k + 1) cap5)) ?_ ⟨_, rfl, trivial, hI.store hL h9 h7 hown hn5 lt0 h6, fun j u hj h => by rcases j with _ | _ | _ | _ | _ | _ | _ | _ | _ | j <;> first | exact h | exact OneI.chg h hch (fun b e => .inr (.inl e)) | exact NewI.chg h hch (fun b hb e => .inl e) | exact absurd rfl hj⟩
          simp only [execOp, e1, e2]
          simp [go_sem, cc, ff]
        · rintro vs w5 ⟨L, hI, hall⟩ hR
          obtain ⟨a5, cap5, i5, hb5', o5⟩ := hI.n (hall 9 (by decide))
          have hcl2 := costL_le (cOf cR) L
          have hca : costAll (cOf cR) 10 = 27 := by kernel_rfl
          rw [hI.s, hca] at hcl2
          have HI := Lib.hid (show PI g P w b6 e0 e1 (k + 1) w5 from ⟨hI.c, hI.r.mono (by omega), hI.z, .slice a5 (k + 1) cap5, is ++ [i5], by rw [List.length_append, HL.out]; rfl, hb5', o5⟩)
          clear hI hall hR hb5' o5 hcl2 hca
          simp only [putAll, Act.put, List.setIfInBounds_toArray, List.set_cons_zero, List.set_cons_succ]
          go_wp2
          go_roundw
          case rel => exact ⟨k + 1, by omega, by go_num, HI.out⟩
          case measure => simp [intOf]; omega
      · obtain rfl : k = M1 := by omega
        have HC := Lib.hid hC
        have HR := Lib.hid hR
        have HZ := Lib.hid hZ
        have HB := Lib.hid hB
        have HO := Lib.hid hO
        have HL := Lib.hid hl
        clear hC hR hZ hB hO hrow nb6 nz hl
        go_wp2_with fail
        refine Calls.mono (oddG (k := 9) HR.out ?_ ?_) ?_
        · omega
        · omega
        rintro e w7 ⟨v, rfl, ⟨o, rfl⟩, hr7, hc7⟩
        have hrow7 := fun b hb => HO.out.lt b hb
        have HB7 := Lib.hid (HB.out.chg hc7 n6)
        have HZ7 := Lib.hid (HZ.out.chg hc7 ne0)
        have HO7 := Lib.hid (owns_chg HO.out hc7 (fun b hb e => by have := (hrow7 b hb).1; omega))
        have HC7 := Lib.hid (HC.out.trans hc7)
        have HR7 := Lib.hid hr7
        have HRow7 := Lib.hid hrow7
        have HN7 := Lib.hid (blk_ne HB7.out HO7.out (by decide))
        have HNZ7 := Lib.hid (blk_ne HZ7.out HO7.out (by decide))
        have d0 : w7.cell? ⟨b6, 0, none⟩ = some (.int .i64 e0) := HB7.out.cell 0
        have d1 : w7.cell? ⟨b6, 1, none⟩ = some (.int .i64 e1) := HB7.out.cell 1
        have d2 : w7.cell? ⟨b6, 2, none⟩ = some (.slice a k cap) := HB7.out.cell 2
        have nzb : ¬ w.heap.size = b6 := by omega
        have hk10 : k ≤ 10 := by omega
        clear c60 c61 c62 f6 l6 hrow7 hc7 hr7 HC HR HZ HB HO
        cases o
        · go_wp2_with fail
          go_region_held3 (fun W => W.cell? ⟨b6, 0, none⟩ = some (.int .i64 e0) ∧ W.cell? ⟨b6, 1, none⟩ = some (.int .i64 e1) ∧ W.cell? ⟨b6, 2, none⟩ = some (.slice a k cap)) (first | assumption | exact ⟨d0, d1, d2⟩ | exact hs8 | exact hs9 | exact ⟨(cell_far3 nzb).trans hs9.1, (cell_far3 nzb).trans hs9.2.1, (cell_far3 nzb).trans hs9.2.2⟩ | exact ⟨(cell_far1 nzb).trans hs9.1, (cell_far1 nzb).trans hs9.2.1, (cell_far1 nzb).trans hs9.2.2⟩)
            (first
            | (go_at_call 40; refine Calls.mono (pickG (k := 4) (rd_drew HR7.out) (by omega) (by omega)) ?_; rintro e w8 ⟨v8, rfl, ⟨q8, rfl, hq8⟩, hr8, hc8⟩; have hcc8 : ChgG g w7 w8 := ChgG.trans (chg_drew (ChgG.refl _ _)) hc8; have hb8 := HB7.out.chg hcc8 n6; have hs8 : w8.cell? ⟨b6, 0, none⟩ = some (.int .i64 e0) ∧ w8.cell? ⟨b6, 1, none⟩ = some (.int .i64 e1) ∧ w8.cell? ⟨b6, 2, none⟩ = some (.slice a k cap) := ⟨hb8.cell 0, hb8.cell 1, hb8.cell 2⟩; have HX8 := Lib.hid (And.intro hcc8 hr8); clear hcc8 hb8 hr8 hc8 hq8)
            | (go_at_call 133; refine Calls.mono (endG (i := ⟨12, 0, (q8 : Int), 0, 0, 0, 0, 0⟩) (owns_chg HO7.out HX8.out.1 (fun b hb e => by have := (HRow7.out b hb).1; omega)) (by omega) (Nat.le_trans HC7.out.size HX8.out.1.size)) ?_; rintro e w9 ⟨v9, rfl, o9, c9⟩; obtain ⟨a9, cap9, rfl⟩ := owns_slice o9; have hb9 := (HB7.out.chg HX8.out.1 n6).chg c9 HN7.out; have hz9 := (HZ7.out.chg HX8.out.1 ne0).chg c9 HNZ7.out; have hs9 : w9.cell? ⟨b6, 0, none⟩ = some (.int .i64 e0) ∧ w9.cell? ⟨b6, 1, none⟩ = some (.int .i64 e1) ∧ w9.cell? ⟨b6, 2, none⟩ = some (.slice a k cap) := ⟨hb9.cell 0, hb9.cell 1, hb9.cell 2⟩; have z0 : w9.cell? ⟨w.heap.size, 0, none⟩ = some (.int .i64 0) := hz9.cell 0; have z1 : w9.cell? ⟨w.heap.size, 1, none⟩ = some (.int .i64 0) := hz9.cell 1; have z2 : w9.cell? ⟨w.heap.size, 2, none⟩ = some (.slice none 0 0) := hz9.cell 2; have zf := fun j => hz9.frozen j; have zl := hz9.lt; have HX9 := Lib.hid (And.intro o9 c9); clear o9 c9 hb9 hz9))
          go_wp2
          refine bodyPost_ret (by simp [results, Tryz.results117, go_sem, z0, z1, z2, zl]; try rfl) rfl ?_
          obtain ⟨o9, c9⟩ := HX9.out
          have hno : (Value.slice a9 (k + 1) cap9).ownBlock ≠ some w.heap.size := fun e => by
            have hz := (HZ7.out.chg HX8.out.1 ne0).chg c9 HNZ7.out
            exact blk_ne hz o9 (by decide) e
          refine ⟨_, _, _, is ++ [⟨12, 0, (q8 : Int), 0, 0, 0, 0, 0⟩], rfl, ?_, by rw [List.length_append, HL.out]; simp only [List.length_cons, List.length_nil]; omega, ?_, ?_⟩
          · rw [List.length_append, HL.out]
            exact owns_far (owns_far (owns_far o9 hno _) hno _) hno _
          · exact (rd_set (rd_set (rd_set (rd_own HX8.out.2 c9 (fun b hb => (HRow7.out b hb).1) lt0) (by simp only; omega) _) (by simp only; omega) _) (by simp only; omega) _).mono (by omega)
          · exact chg_set (chg_set (chg_set (chg_own (HC7.out.trans HX8.out.1) c9 (fun b hb => (HRow7.out b hb).1)) (Nat.le_refl _) _) (Nat.le_refl _) _) (Nat.le_refl _) _
        · go_wp2_with fail
          go_region_held3 (fun W => W.cell? ⟨b6, 0, none⟩ = some (.int .i64 e0) ∧ W.cell? ⟨b6, 1, none⟩ = some (.int .i64 e1) ∧ W.cell? ⟨b6, 2, none⟩ = some (.slice a k cap)) (first | assumption | exact ⟨d0, d1, d2⟩ | exact hs8 | exact hs9 | exact ⟨(cell_far3 nzb).trans hs9.1, (cell_far3 nzb).trans hs9.2.1, (cell_far3 nzb).trans hs9.2.2⟩ | exact ⟨(cell_far1 nzb).trans hs9.1, (cell_far1 nzb).trans hs9.2.1, (cell_far1 nzb).trans hs9.2.2⟩)
            (first
            | (go_at_call 40; refine Calls.mono (pickG (k := (M : Int)) (rd_drew HR7.out) (by omega) (by omega)) ?_; rintro e w8 ⟨v8, rfl, ⟨q8, rfl, hq8⟩, hr8, hc8⟩; have hcc8 : ChgG g w7 w8 := ChgG.trans (chg_drew (ChgG.refl _ _)) hc8; have hb8 := HB7.out.chg hcc8 n6; have hs8 : w8.cell? ⟨b6, 0, none⟩ = some (.int .i64 e0) ∧ w8.cell? ⟨b6, 1, none⟩ = some (.int .i64 e1) ∧ w8.cell? ⟨b6, 2, none⟩ = some (.slice a k cap) := ⟨hb8.cell 0, hb8.cell 1, hb8.cell 2⟩; have HX8 := Lib.hid (And.intro hcc8 hr8); clear hcc8 hb8 hr8 hc8 hq8)
            | (go_at_call 133; refine Calls.mono (endG (i := ⟨9, 0, 0, 0, 0, 0, 0, (q8 : Int)⟩) (owns_chg HO7.out HX8.out.1 (fun b hb e => by have := (HRow7.out b hb).1; omega)) (by omega) (Nat.le_trans HC7.out.size HX8.out.1.size)) ?_; rintro e w9 ⟨v9, rfl, o9, c9⟩; obtain ⟨a9, cap9, rfl⟩ := owns_slice o9; have hb9 := (HB7.out.chg HX8.out.1 n6).chg c9 HN7.out; have hz9 := (HZ7.out.chg HX8.out.1 ne0).chg c9 HNZ7.out; have hs9 : w9.cell? ⟨b6, 0, none⟩ = some (.int .i64 e0) ∧ w9.cell? ⟨b6, 1, none⟩ = some (.int .i64 e1) ∧ w9.cell? ⟨b6, 2, none⟩ = some (.slice a k cap) := ⟨hb9.cell 0, hb9.cell 1, hb9.cell 2⟩; have z0 : w9.cell? ⟨w.heap.size, 0, none⟩ = some (.int .i64 0) := hz9.cell 0; have z1 : w9.cell? ⟨w.heap.size, 1, none⟩ = some (.int .i64 0) := hz9.cell 1; have z2 : w9.cell? ⟨w.heap.size, 2, none⟩ = some (.slice none 0 0) := hz9.cell 2; have zf := fun j => hz9.frozen j; have zl := hz9.lt; have HX9 := Lib.hid (And.intro o9 c9); clear o9 c9 hb9 hz9))
          go_wp2
          refine bodyPost_ret (by simp [results, Tryz.results117, go_sem, z0, z1, z2, zl]; try rfl) rfl ?_
          obtain ⟨o9, c9⟩ := HX9.out
          have hno : (Value.slice a9 (k + 1) cap9).ownBlock ≠ some w.heap.size := fun e => by
            have hz := (HZ7.out.chg HX8.out.1 ne0).chg c9 HNZ7.out
            exact blk_ne hz o9 (by decide) e
          refine ⟨_, _, _, is ++ [⟨9, 0, 0, 0, 0, 0, 0, (q8 : Int)⟩], rfl, ?_, by rw [List.length_append, HL.out]; simp only [List.length_cons, List.length_nil]; omega, ?_, ?_⟩
          · rw [List.length_append, HL.out]
            exact owns_far (owns_far (owns_far o9 hno _) hno _) hno _
          · exact (rd_set (rd_set (rd_set (rd_own HX8.out.2 c9 (fun b hb => (HRow7.out b hb).1) lt0) (by simp only; omega) _) (by simp only; omega) _) (by simp only; omega) _).mono (by omega)
          · exact chg_set (chg_set (chg_set (chg_own (HC7.out.trans HX8.out.1) c9 (fun b hb => (HRow7.out b hb).1)) (Nat.le_refl _) _) (Nat.le_refl _) _) (Nat.le_refl _) _
  · have hk3 : (k : Int) > 0 := by omega
    go_wp2_with fail
    refine Calls.mono (pickG (k := 6) (rd_al HR.out _) ?_ ?_) ?_
    · omega
    · omega
    rintro e w2 ⟨v, rfl, ⟨u, rfl, hu⟩, hr2, hc2⟩
    have hu := hu (by omega)
    obtain ⟨y0, _, hl0⟩ := lit_get [0, 0, 0, 3, -5, 5, 0, 10, 1, 1, -32768, 32767] (j := u * 2) (by simp only [List.length_cons, List.length_nil]; omega)
    obtain ⟨y1, _, hl1⟩ := lit_get [0, 0, 0, 3, -5, 5, 0, 10, 1, 1, -32768, 32767] (j := u * 2 + 1) (by simp only [List.length_cons, List.length_nil]; omega)
    have hS : Blk w2 w'.heap.size 96 (ints .i64 [0, 0, 0, 3, -5, 5, 0, 10, 1, 1, -32768, 32767]).toArray := (Blk.new w' _ _).chg hc2 (by have := HR.out.lt; omega)
    have s0 : w2.cell? ⟨w'.heap.size, u * 2, none⟩ = some (.int .i64 y0) := (hS.cell _).trans (by simpa using hl0)
    have s1 : w2.cell? ⟨w'.heap.size, u * 2 + 1, none⟩ = some (.int .i64 y1) := (hS.cell _).trans (by simpa using hl1)
    have sl := hS.lt
    have hcw : ChgG g w' w2 := ChgG.trans (chg_al (ChgG.refl g w') _) hc2
    have hZ2 := HZ.out.chg hcw ne0
    have hC2 := HC.out.trans hcw
    have c50' : w2.cell? ⟨b5, 0, none⟩ = some (.int .i64 e0) := (World.cell?_of_block (w := w') (w' := w2) (a := ⟨b5, 0, none⟩) (hcw.block _ l5 n5)).trans c50
    have c51' : w2.cell? ⟨b5, 1, none⟩ = some (.int .i64 e1) := (World.cell?_of_block (w := w') (w' := w2) (a := ⟨b5, 1, none⟩) (hcw.block _ l5 n5)).trans c51
    have HB5 := Lib.hid (hb5.out.chg hcw n5)
    have f5' := fun j => HB5.out.frozen j
    have l5' := HB5.out.lt
    have hws := hcw.size
    clear c50 c51 f5 l5 hS HZ HC HR hb5 hl0 hl1 hcw hc2
    generalize w'.heap.size = bs at *
    have hcls : True := trivial
    go_wp2_with fail
    obtain ⟨b6, hb6⟩ : ∃ b, w2.heap.size = b := ⟨_, rfl⟩
    rw [hb6]
    refine calls_let ?_
    intro E hE
    have h6 : w.heap.size < b6 := by omega
    have hr0 : RdLe E g (P + 22) := by rw [hE]; exact RdLe.mono (g_rd) (by omega)
    have hpi : PI g P w b6 y0 y1 0 E := mid _ _ _ _ (by rw [hE]; exact g_chg) hr0 (by rw [hE]; (repeat (first | with_reducible assumption | with_reducible exact Blk.new' (by simp only [World.size_alloc, World.size_drew, World.size_setCell]) | with_reducible refine Blk.alloc ?_ _ | with_reducible refine Blk.grew ?_ (grew_d (Below.refl _ _)) | with_reducible refine Blk.far ?_ (by first | assumption | (simp only; omega)) _))) (by rw [hE]; subst hb6; (repeat (first | with_reducible assumption | with_reducible exact Blk.new' (by simp only [World.size_alloc, World.size_drew, World.size_setCell]) | with_reducible refine Blk.alloc ?_ _ | with_reducible refine Blk.grew ?_ (grew_d (Below.refl _ _)) | with_reducible refine Blk.far ?_ (by first | assumption | (simp only; omega)) _))) h6
    clear hE
    refine Calls.mono (pickG (k := 9) hr0 ?_ ?_) ?_
    · omega
    · omega
    rintro e w6 ⟨v, rfl, ⟨q, rfl, hq⟩, hr6, hc6⟩
    have hq := hq (by omega)
    have HPI := Lib.hid (hpi.cg hc6 (hr6.mono (by omega)) lt0 (by omega))
    clear hpi hr0 hr6 hc6 mid
    obtain ⟨M1, hM1⟩ : ∃ m : Nat, m = q + 1 := ⟨_, rfl⟩
    obtain ⟨M, hM⟩ : ∃ m : Nat, m = q + 2 := ⟨_, rfl⟩
    have wM : IntKind.i64.wrap (2 + (q : Int)) = (M : Int) := by rw [show 2 + (q : Int) = (M : Int) from by omega]; first | exact IntWalk.i64_in (by omega) (by omega) | exact IntWalk.i64_in _ (by omega) (by omega) | go_unwrap
    have wM1 : IntKind.i64.wrap ((M : Int) - 1) = (M1 : Int) := by rw [show (M : Int) - 1 = (M1 : Int) from by omega]; first | exact IntWalk.i64_in (by omega) (by omega) | exact IntWalk.i64_in _ (by omega) (by omega) | go_unwrap
    have hMb : M ≤ 11 := by omega
    have hM1b : M1 ≤ 10 := by omega
    clear hM hM1
    go_wp2
    go_loopw [8] (fun i wr => ∃ k : Nat, k ≤ M1 ∧ i = .int .i64 k ∧ PI g P w b6 y0 y1 k wr) (fun i _ => M1 - (intOf i).toNat)
    case atStart => exact ⟨0, Nat.zero_le _, rfl, HPI.out⟩
    case round =>
      clear HPI
      obtain ⟨k, hk, rfl, hC, hR, hZ, v, is, hl, hB, hO⟩ := hrel
      obtain ⟨a, cap, rfl⟩ := owns_slice hO
      have c60 : wr.cell? ⟨b6, 0, none⟩ = some (.int .i64 y0) := hB.cell 0
      have c61 : wr.cell? ⟨b6, 1, none⟩ = some (.int .i64 y1) := hB.cell 1
      have c62 : wr.cell? ⟨b6, 2, none⟩ = some (.slice a k cap) := hB.cell 2
      have f6 := fun j => hB.frozen j
      have l6 := hB.lt
      have n6 : ¬ b6 = g := by omega
      have hrow := fun b hb => hO.lt b hb
      have nb6 := blk_ne hB hO (by decide)
      have nz := blk_ne hZ hO (by decide)
      by_cases hlt : k < M1
      · have HC := Lib.hid hC
        have HR := Lib.hid hR
        have HZ := Lib.hid hZ
        have HB := Lib.hid hB
        have HO := Lib.hid hO
        have HRow := Lib.hid hrow
        have HN := Lib.hid nb6
        have HNZ := Lib.hid nz
        have HL := Lib.hid hl
        clear hC hR hZ hB hO hrow nb6 nz hl
        go_wp2_with fail
        have no9 : ∀ (L : Array Bool) (ops : Array Oper), True := fun _ _ => trivial
        refine wp_region_invL 61 (PII g (P + 24 + 27 * k) w b6 y0 y1 k is a cap)
          (fun i W v => match i with | 0 => v = .pointer (some ⟨b6, 2, none⟩) | 1 => v = .slice a k cap | 2 => v = .pointer (some ⟨g, 0, none⟩) | 3 => v = .int .i64 procs | 4 => v = .int .i64 (M : Int) | 5 => IsIns v | 6 => OneI (fun b => b = g ∨ b = b6 ∨ b = w.heap.size ∨ (Value.slice a k cap).ownBlock = some b) W v | 7 => NewI w.heap.size (fun b => b = b6 ∨ b = w.heap.size) k is W v | 8 => v = .pointer (some ⟨b6, 2, none⟩) | _ => True)
          (by kernel_rfl) rfl (by kernel_rfl) ⟨chg_drew HC.out, (rd_drew HR.out).mono (by omega), by kernel_rfl, HZ.out, fun _ => HO.out, fun _ => HB.out, fun h => by cases h⟩ ⟨?_, ?_, ?_, ?_, ?_, ?_, ?_, ?_, ?_, ?_, trivial⟩ ?_
        · intro L A W hs hi hL hcl hI hf hd
          have e : A.eval (.tmp 6) = .pointer (some ⟨b6, 0, none⟩) := hf 6 (hasNo_spec (by kernel_rfl))
          have hrun : ∀ W, (Instr.fieldAt 56 (.pointer (some ⟨b6, 0, none⟩)) 2).run Tryz.prog W = .ok (.pointer (some ⟨b6, 2, none⟩)) W := fun W => by kernel_rfl
          refine op_val (v := .pointer (some ⟨b6, 2, none⟩)) (w' := W) ?_ ⟨_, rfl, rfl, hI.keep (by omega) hL (by omega) (by omega), fun _ _ _ h => h⟩
          simp only [execOp, e]
          simp [hrun, Result.andThen]
        · intro L A W hs hi hL hcl hI hf hd
          have h9 : L.getD 9 false = false := by
            cases h : L.getD 9 false
            · rfl
            · have h7 := hcl 9 _ ⟨7, .data⟩ rfl h (by simp) rfl
              have h1 := hcl 7 _ ⟨1, .data⟩ rfl h7 (by simp) rfl
              rw [no_list hs (by omega) hL] at h1
              cases h1
          have e : A.eval (.tmp 39) = .pointer (some ⟨b6, 2, none⟩) := (hd ⟨0, .data⟩ (by simp) rfl).2 39 (by kernel_rfl)
          have hc2 : W.cell? ⟨b6, 2, none⟩ = some (.slice a k cap) := (hI.b h9).cell 2
          refine op_val (v := .slice a k cap) (w' := W) ?_ ⟨_, rfl, rfl, hI.keep (by omega) hL (by omega) (by omega), fun _ _ _ h => h⟩
          simp only [execOp, e]
          simp [go_sem, hc2]
        · intro L A W hs hi hL hcl hI hf hd
          have e : A.eval (.tmp 0) = .pointer (some ⟨g, 0, none⟩) := hf 0 (hasNo_spec (by kernel_rfl))
          exact op_val (v := .pointer (some ⟨g, 0, none⟩)) (w' := W) (by simp only [execOp, e]; rfl) ⟨_, rfl, rfl, hI.keep (by omega) hL (by omega) (by omega), fun _ _ _ h => h⟩
        · intro L A W hs hi hL hcl hI hf hd
          have e : A.eval (.tmp 1) = .int .i64 procs := hf 1 (hasNo_spec (by kernel_rfl))
          exact op_val (v := .int .i64 procs) (w' := W) (by simp only [execOp, e]; rfl) ⟨_, rfl, rfl, hI.keep (by omega) hL (by omega) (by omega), fun _ _ _ h => h⟩
        · intro L A W hs hi hL hcl hI hf hd
          have e : A.eval (.tmp 7) = .int .i64 (M : Int) := hf 7 (hasNo_spec (by kernel_rfl))
          exact op_val (v := .int .i64 (M : Int)) (w' := W) (by simp only [execOp, e]; rfl) ⟨_, rfl, rfl, hI.keep (by omega) hL (by omega) (by omega), fun _ _ _ h => h⟩
        · intro L A W hs hi hL hcl hI hf hd
          have h9 : L.getD 9 false = false := by
            cases h : L.getD 9 false
            · rfl
            · have h7 := hcl 9 _ ⟨7, .data⟩ rfl h (by simp) rfl
              have h1 := hcl 7 _ ⟨6, .data⟩ rfl h7 (by simp) rfl
              have h1 := hcl 6 _ ⟨5, .data⟩ rfl h1 (by simp) rfl
              rw [no_list hs (by omega) hL] at h1
              cases h1
          have e1 : A.eval (.tmp 41) = .pointer (some ⟨g, 0, none⟩) := (hd ⟨2, .data⟩ (by simp) rfl).2 41 (by kernel_rfl)
          have e2 : A.eval (.tmp 42) = .int .i64 procs := (hd ⟨3, .data⟩ (by simp) rfl).2 42 (by kernel_rfl)
          have e3 : A.eval (.tmp 43) = .int .i64 (M : Int) := (hd ⟨4, .data⟩ (by simp) rfl).2 43 (by kernel_rfl)
          have hcl2 := costL_le (cOf cR) L
          have hca : costAll (cOf cR) 10 = 27 := by kernel_rfl
          rw [hI.s, hca] at hcl2
          refine op_enter (f := 90) (vals := #[A.eval (.tmp 41), A.eval (.tmp 42), A.eval (.tmp 43)]) (by kernel_rfl) ?_
          rw [e1, e2, e3]
          refine Calls.mono (insG hI.r (by omega) hk1 (by omega)) ?_
          rintro e W' ⟨v, rfl, hv, hr', hc'⟩
          exact ⟨v, rfl, v, rfl, hv, hI.go (by omega) hL (by omega) (by omega) h9 hc' hr' lt0 h6, fun j u hj h => by rcases j with _ | _ | _ | _ | _ | _ | _ | _ | _ | j <;> first | exact h | exact OneI.chg h hc' (fun b e => .inl e) | exact NewI.chg h hc' (fun b hb e => by omega) | exact absurd rfl hj⟩
        · intro L A W hs hi hL hcl hI hf hd
          have h7 : L.getD 7 false = false := by
            cases h : L.getD 7 false
            · rfl
            · have h1 := hcl 7 _ ⟨6, .data⟩ rfl h (by simp) rfl
              rw [no_list hs (by omega) hL] at h1
              cases h1
          have h9 : L.getD 9 false = false := by
            cases h : L.getD 9 false
            · rfl
            · have h7' := hcl 9 _ ⟨7, .data⟩ rfl h (by simp) rfl
              rw [h7] at h7'
              cases h7'
          obtain ⟨op, d, ia, ib, rel, lo2, hi2, to, e⟩ : IsIns (A.eval (.tmp 44)) := (hd ⟨5, .data⟩ (by simp) rfl).2 44 (by kernel_rfl)
          have hrun : ∀ W : World, (Instr.buildSlice 54 1 #[(0, .agg #[.int .i64 op, .int .i64 d, .int .i64 ia, .int .i64 ib, .int .i64 rel, .int .i64 lo2, .int .i64 hi2, .int .i64 to])]).run Tryz.prog W = .ok (.slice (some ⟨W.heap.size, 0, none⟩) 1 1) (W.alloc (.cells #[.int .i64 op, .int .i64 d, .int .i64 ia, .int .i64 ib, .int .i64 rel, .int .i64 lo2, .int .i64 hi2, .int .i64 to] 38)) := fun W => by kernel_rfl
          have ho := hI.o h7
          have hbl := (hI.b h9).lt
          have hzl := hI.z.lt
          have hgl := hI.r.lt
          refine op_val (v := .slice (some ⟨W.heap.size, 0, none⟩) 1 1) (w' := W.alloc (.cells #[.int .i64 op, .int .i64 d, .int .i64 ia, .int .i64 ib, .int .i64 rel, .int .i64 lo2, .int .i64 hi2, .int .i64 to] 38)) ?_ ⟨_, rfl, ⟨⟨op, d, ia, ib, rel, lo2, hi2, to⟩, W.heap.size, rfl, Blk.new _ _ _, ?_⟩, hI.go (by omega) hL (by omega) (by omega) h9 (ChgG.of_grew (grew_al (Below.refl _ _) _)) ((rd_al hI.r _).mono (by omega)) lt0 h6, fun j u hj h => by rcases j with _ | _ | _ | _ | _ | _ | _ | _ | _ | j <;> first | exact h | exact OneI.chg h (ChgG.of_grew (g := g) (grew_al (Below.refl _ _) _)) (fun b e => .inl e) | exact NewI.chg h (ChgG.of_grew (g := g) (grew_al (Below.refl _ _) _)) (fun b hb e => by omega) | exact absurd rfl hj⟩
          · simp only [execOp, List.map_toArray, List.map_cons, List.map_nil, e]
            simp [hrun, Result.andThen]
          · rintro (h | h | h | h)
            · omega
            · omega
            · omega
            · have := (ho.lt _ h).2
              omega
        · intro L A W hs hi hL hcl hI hf hd
          have h7 := no_list hs (by omega) hL
          have h9 : L.getD 9 false = false := by
            cases h : L.getD 9 false
            · rfl
            · have h7' := hcl 9 _ ⟨7, .data⟩ rfl h (by simp) rfl
              rw [h7] at h7'
              cases h7'
          have e1 : A.eval (.tmp 40) = .slice a k cap := (hd ⟨1, .data⟩ (by simp) rfl).2 40 (by kernel_rfl)
          obtain ⟨i, b, e2, hb, hF⟩ : OneI (fun b => b = g ∨ b = b6 ∨ b = w.heap.size ∨ (Value.slice a k cap).ownBlock = some b) W (A.eval (.tmp 45)) := (hd ⟨6, .data⟩ (by simp) rfl).2 45 (by kernel_rfl)
          have ho := hI.o h7
          have hrd : Rd W (some ⟨b, 0, none⟩) 1 8 i.cells := ⟨rfl, .inr ⟨b, 0, rfl, fun j u hu => by rw [Nat.zero_add]; exact (hb.cell j).trans (by simpa using hu)⟩⟩
          obtain ⟨v', W', hrun, hown, hgr, hv'⟩ := owns_append (P := Tryz.prog) W insEl ho (some ⟨b, 0, none⟩) 1 1 i.cells hrd (ins_one1 _) (by omega) (by omega) hI.c.size
          obtain ⟨a5, cap5, rfl⟩ := owns_slice hown
          have hch := Chg.of_grownBy hgr
          have hbl := (hI.b h9).lt
          have hzl := hI.z.lt
          refine op_append (.tmp 40) (.tmp 45) rfl rfl e1 e2 hrun ⟨_, rfl, ⟨a5, cap5, i, rfl, ?_, ?_⟩, hI.app hL h7 h9 hch lt0, fun j u hj h => by rcases j with _ | _ | _ | _ | _ | _ | _ | _ | _ | j <;> first | exact h | exact OneI.chg h hch (fun b e => .inr (.inr (.inr e))) | exact NewI.chg h hch (fun b hb e => by cases e; exact absurd rfl hj) | exact absurd rfl hj⟩
          · rw [List.flatMap_append, List.flatMap_cons, List.flatMap_nil, List.append_nil]
            exact hown
          · rintro b0 hb0 hb1
            rcases hv' with h | h
            · rw [h] at hb0
              rcases hb1 with rfl | rfl
              · exact blk_ne (hI.b h9) ho (by decide) hb0
              · exact blk_ne hI.z ho (by decide) hb0
            · rw [h, Option.some.injEq] at hb0
              omega
        · intro L A W hs hi hL hcl hI hf hd
          have e : A.eval (.tmp 6) = .pointer (some ⟨b6, 0, none⟩) := hf 6 (hasNo_spec (by kernel_rfl))
          have hrun : ∀ W, (Instr.fieldAt 56 (.pointer (some ⟨b6, 0, none⟩)) 2).run Tryz.prog W = .ok (.pointer (some ⟨b6, 2, none⟩)) W := fun W => by kernel_rfl
          refine op_val (v := .pointer (some ⟨b6, 2, none⟩)) (w' := W) ?_ ⟨_, rfl, rfl, hI.keep (by omega) hL (by omega) (by omega), fun _ _ _ h => h⟩
          simp only [execOp, e]
          simp [hrun, Result.andThen]
        · intro L A W hs hi hL hcl hI hf hd
          have h9 := no_list hs (by omega) hL
          have h7 : L.getD 7 false = true := (hd ⟨7, .data⟩ (by simp) rfl).1
          have e1 : A.eval (.tmp 47) = .pointer (some ⟨b6, 2, none⟩) := (hd ⟨8, .data⟩ (by simp) rfl).2 47 (by kernel_rfl)
          obtain ⟨a5, cap5, i, e2, hown, hn5⟩ : NewI w.heap.size (fun b => b = b6 ∨ b = w.heap.size) k is W (A.eval (.tmp 46)) := (hd ⟨7, .data⟩ (by simp) rfl).2 46 (by kernel_rfl)
          have hB9 := hI.b h9
          have cc : W.cell? ⟨b6, 2, none⟩ = some (.slice a k cap) := hB9.cell 2
          have ff : W.frozen? ⟨b6, 2, none⟩ = false := hB9.frozen 2
          have hch : Chg (fun b => b = b6) W (W.setCell ⟨b6, 2, none⟩ (.slice a5 (k + 1) cap5)) := chg1 (Chg.refl _ _) _
          refine op_skip (w' := W.setCell ⟨b6, 2, none⟩ (.slice a5 (k + 1) cap5)) ?_ ⟨_, rfl, trivial, hI.store hL h9 h7 hown hn5 lt0 h6, fun j u hj h => by rcases j with _ | _ | _ | _ | _ | _ | _ | _ | _ | j <;> first | exact h | exact OneI.chg h hch (fun b e => .inr (.inl e)) | exact NewI.chg h hch (fun b hb e => .inl e) | exact absurd rfl hj⟩
          simp only [execOp, e1, e2]
          simp [go_sem, cc, ff]
        · rintro vs w5 ⟨L, hI, hall⟩ hR
          obtain ⟨a5, cap5, i5, hb5', o5⟩ := hI.n (hall 9 (by decide))
          have hcl2 := costL_le (cOf cR) L
          have hca : costAll (cOf cR) 10 = 27 := by kernel_rfl
          rw [hI.s, hca] at hcl2
          have HI := Lib.hid (show PI g P w b6 y0 y1 (k + 1) w5 from ⟨hI.c, hI.r.mono (by omega), hI.z, .slice a5 (k + 1) cap5, is ++ [i5], by rw [List.length_append, HL.out]; rfl, hb5', o5⟩)
          clear hI hall hR hb5' o5 hcl2 hca
          simp only [putAll, Act.put, List.setIfInBounds_toArray, List.set_cons_zero, List.set_cons_succ]
          go_wp2
          go_roundw
          case rel => exact ⟨k + 1, by omega, by go_num, HI.out⟩
          case measure => simp [intOf]; omega
      · obtain rfl : k = M1 := by omega
        have HC := Lib.hid hC
        have HR := Lib.hid hR
        have HZ := Lib.hid hZ
        have HB := Lib.hid hB
        have HO := Lib.hid hO
        have HL := Lib.hid hl
        clear hC hR hZ hB hO hrow nb6 nz hl
        go_wp2_with fail
        refine Calls.mono (oddG (k := 9) HR.out ?_ ?_) ?_
        · omega
        · omega
        rintro e w7 ⟨v, rfl, ⟨o, rfl⟩, hr7, hc7⟩
        have hrow7 := fun b hb => HO.out.lt b hb
        have HB7 := Lib.hid (HB.out.chg hc7 n6)
        have HZ7 := Lib.hid (HZ.out.chg hc7 ne0)
        have HO7 := Lib.hid (owns_chg HO.out hc7 (fun b hb e => by have := (hrow7 b hb).1; omega))
        have HC7 := Lib.hid (HC.out.trans hc7)
        have HR7 := Lib.hid hr7
        have HRow7 := Lib.hid hrow7
        have HN7 := Lib.hid (blk_ne HB7.out HO7.out (by decide))
        have HNZ7 := Lib.hid (blk_ne HZ7.out HO7.out (by decide))
        have d0 : w7.cell? ⟨b6, 0, none⟩ = some (.int .i64 y0) := HB7.out.cell 0
        have d1 : w7.cell? ⟨b6, 1, none⟩ = some (.int .i64 y1) := HB7.out.cell 1
        have d2 : w7.cell? ⟨b6, 2, none⟩ = some (.slice a k cap) := HB7.out.cell 2
        have nzb : ¬ w.heap.size = b6 := by omega
        have hk10 : k ≤ 10 := by omega
        clear c60 c61 c62 f6 l6 hrow7 hc7 hr7 HC HR HZ HB HO
        cases o
        · go_wp2_with fail
          go_region_held3 (fun W => W.cell? ⟨b6, 0, none⟩ = some (.int .i64 y0) ∧ W.cell? ⟨b6, 1, none⟩ = some (.int .i64 y1) ∧ W.cell? ⟨b6, 2, none⟩ = some (.slice a k cap)) (first | assumption | exact ⟨d0, d1, d2⟩ | exact hs8 | exact hs9 | exact ⟨(cell_far3 nzb).trans hs9.1, (cell_far3 nzb).trans hs9.2.1, (cell_far3 nzb).trans hs9.2.2⟩ | exact ⟨(cell_far1 nzb).trans hs9.1, (cell_far1 nzb).trans hs9.2.1, (cell_far1 nzb).trans hs9.2.2⟩)
            (first
            | (go_at_call 40; refine Calls.mono (pickG (k := 4) (rd_drew HR7.out) (by omega) (by omega)) ?_; rintro e w8 ⟨v8, rfl, ⟨q8, rfl, hq8⟩, hr8, hc8⟩; have hcc8 : ChgG g w7 w8 := ChgG.trans (chg_drew (ChgG.refl _ _)) hc8; have hb8 := HB7.out.chg hcc8 n6; have hs8 : w8.cell? ⟨b6, 0, none⟩ = some (.int .i64 y0) ∧ w8.cell? ⟨b6, 1, none⟩ = some (.int .i64 y1) ∧ w8.cell? ⟨b6, 2, none⟩ = some (.slice a k cap) := ⟨hb8.cell 0, hb8.cell 1, hb8.cell 2⟩; have HX8 := Lib.hid (And.intro hcc8 hr8); clear hcc8 hb8 hr8 hc8 hq8)
            | (go_at_call 133; refine Calls.mono (endG (i := ⟨12, 0, (q8 : Int), 0, 0, 0, 0, 0⟩) (owns_chg HO7.out HX8.out.1 (fun b hb e => by have := (HRow7.out b hb).1; omega)) (by omega) (Nat.le_trans HC7.out.size HX8.out.1.size)) ?_; rintro e w9 ⟨v9, rfl, o9, c9⟩; obtain ⟨a9, cap9, rfl⟩ := owns_slice o9; have hb9 := (HB7.out.chg HX8.out.1 n6).chg c9 HN7.out; have hz9 := (HZ7.out.chg HX8.out.1 ne0).chg c9 HNZ7.out; have hs9 : w9.cell? ⟨b6, 0, none⟩ = some (.int .i64 y0) ∧ w9.cell? ⟨b6, 1, none⟩ = some (.int .i64 y1) ∧ w9.cell? ⟨b6, 2, none⟩ = some (.slice a k cap) := ⟨hb9.cell 0, hb9.cell 1, hb9.cell 2⟩; have z0 : w9.cell? ⟨w.heap.size, 0, none⟩ = some (.int .i64 0) := hz9.cell 0; have z1 : w9.cell? ⟨w.heap.size, 1, none⟩ = some (.int .i64 0) := hz9.cell 1; have z2 : w9.cell? ⟨w.heap.size, 2, none⟩ = some (.slice none 0 0) := hz9.cell 2; have zf := fun j => hz9.frozen j; have zl := hz9.lt; have HX9 := Lib.hid (And.intro o9 c9); clear o9 c9 hb9 hz9))
          go_wp2
          refine bodyPost_ret (by simp [results, Tryz.results117, go_sem, z0, z1, z2, zl]; try rfl) rfl ?_
          obtain ⟨o9, c9⟩ := HX9.out
          have hno : (Value.slice a9 (k + 1) cap9).ownBlock ≠ some w.heap.size := fun e => by
            have hz := (HZ7.out.chg HX8.out.1 ne0).chg c9 HNZ7.out
            exact blk_ne hz o9 (by decide) e
          refine ⟨_, _, _, is ++ [⟨12, 0, (q8 : Int), 0, 0, 0, 0, 0⟩], rfl, ?_, by rw [List.length_append, HL.out]; simp only [List.length_cons, List.length_nil]; omega, ?_, ?_⟩
          · rw [List.length_append, HL.out]
            exact owns_far (owns_far (owns_far o9 hno _) hno _) hno _
          · exact (rd_set (rd_set (rd_set (rd_own HX8.out.2 c9 (fun b hb => (HRow7.out b hb).1) lt0) (by simp only; omega) _) (by simp only; omega) _) (by simp only; omega) _).mono (by omega)
          · exact chg_set (chg_set (chg_set (chg_own (HC7.out.trans HX8.out.1) c9 (fun b hb => (HRow7.out b hb).1)) (Nat.le_refl _) _) (Nat.le_refl _) _) (Nat.le_refl _) _
        · go_wp2_with fail
          go_region_held3 (fun W => W.cell? ⟨b6, 0, none⟩ = some (.int .i64 y0) ∧ W.cell? ⟨b6, 1, none⟩ = some (.int .i64 y1) ∧ W.cell? ⟨b6, 2, none⟩ = some (.slice a k cap)) (first | assumption | exact ⟨d0, d1, d2⟩ | exact hs8 | exact hs9 | exact ⟨(cell_far3 nzb).trans hs9.1, (cell_far3 nzb).trans hs9.2.1, (cell_far3 nzb).trans hs9.2.2⟩ | exact ⟨(cell_far1 nzb).trans hs9.1, (cell_far1 nzb).trans hs9.2.1, (cell_far1 nzb).trans hs9.2.2⟩)
            (first
            | (go_at_call 40; refine Calls.mono (pickG (k := (M : Int)) (rd_drew HR7.out) (by omega) (by omega)) ?_; rintro e w8 ⟨v8, rfl, ⟨q8, rfl, hq8⟩, hr8, hc8⟩; have hcc8 : ChgG g w7 w8 := ChgG.trans (chg_drew (ChgG.refl _ _)) hc8; have hb8 := HB7.out.chg hcc8 n6; have hs8 : w8.cell? ⟨b6, 0, none⟩ = some (.int .i64 y0) ∧ w8.cell? ⟨b6, 1, none⟩ = some (.int .i64 y1) ∧ w8.cell? ⟨b6, 2, none⟩ = some (.slice a k cap) := ⟨hb8.cell 0, hb8.cell 1, hb8.cell 2⟩; have HX8 := Lib.hid (And.intro hcc8 hr8); clear hcc8 hb8 hr8 hc8 hq8)
            | (go_at_call 133; refine Calls.mono (endG (i := ⟨9, 0, 0, 0, 0, 0, 0, (q8 : Int)⟩) (owns_chg HO7.out HX8.out.1 (fun b hb e => by have := (HRow7.out b hb).1; omega)) (by omega) (Nat.le_trans HC7.out.size HX8.out.1.size)) ?_; rintro e w9 ⟨v9, rfl, o9, c9⟩; obtain ⟨a9, cap9, rfl⟩ := owns_slice o9; have hb9 := (HB7.out.chg HX8.out.1 n6).chg c9 HN7.out; have hz9 := (HZ7.out.chg HX8.out.1 ne0).chg c9 HNZ7.out; have hs9 : w9.cell? ⟨b6, 0, none⟩ = some (.int .i64 y0) ∧ w9.cell? ⟨b6, 1, none⟩ = some (.int .i64 y1) ∧ w9.cell? ⟨b6, 2, none⟩ = some (.slice a k cap) := ⟨hb9.cell 0, hb9.cell 1, hb9.cell 2⟩; have z0 : w9.cell? ⟨w.heap.size, 0, none⟩ = some (.int .i64 0) := hz9.cell 0; have z1 : w9.cell? ⟨w.heap.size, 1, none⟩ = some (.int .i64 0) := hz9.cell 1; have z2 : w9.cell? ⟨w.heap.size, 2, none⟩ = some (.slice none 0 0) := hz9.cell 2; have zf := fun j => hz9.frozen j; have zl := hz9.lt; have HX9 := Lib.hid (And.intro o9 c9); clear o9 c9 hb9 hz9))
          go_wp2
          refine bodyPost_ret (by simp [results, Tryz.results117, go_sem, z0, z1, z2, zl]; try rfl) rfl ?_
          obtain ⟨o9, c9⟩ := HX9.out
          have hno : (Value.slice a9 (k + 1) cap9).ownBlock ≠ some w.heap.size := fun e => by
            have hz := (HZ7.out.chg HX8.out.1 ne0).chg c9 HNZ7.out
            exact blk_ne hz o9 (by decide) e
          refine ⟨_, _, _, is ++ [⟨9, 0, 0, 0, 0, 0, 0, (q8 : Int)⟩], rfl, ?_, by rw [List.length_append, HL.out]; simp only [List.length_cons, List.length_nil]; omega, ?_, ?_⟩
          · rw [List.length_append, HL.out]
            exact owns_far (owns_far (owns_far o9 hno _) hno _) hno _
          · exact (rd_set (rd_set (rd_set (rd_own HX8.out.2 c9 (fun b hb => (HRow7.out b hb).1) lt0) (by simp only; omega) _) (by simp only; omega) _) (by simp only; omega) _).mono (by omega)
          · exact chg_set (chg_set (chg_set (chg_own (HC7.out.trans HX8.out.1) c9 (fun b hb => (HRow7.out b hb).1)) (Nat.le_refl _) _) (Nat.le_refl _) _) (Nat.le_refl _) _
end Go.Proofs.YtcdfomoglkhboaaGreatDoor
