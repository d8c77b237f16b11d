/- Lemmas and walks of this proof, some texts one behind the other. No condition. -/
import Derived.Test.YtpmfpgbpndobpaaGreatBase
import Derived.Outline
import Derived.Deep.RegionHeld3
set_option linter.unusedSimpArgs false
set_option linter.unusedVariables false
/- Contracts of the reference's readers of a code: what they return lies in its range, the code is read on. No condition. -/
namespace Go.Proofs.YtpmfpgbpndobpaaGreat
open Go.RowKit
set_option linter.unusedVariables false

/-- Block `g` is a reader of a code at place `p`. -/
def RdAt (w : World) (g p : Nat) : Prop :=
  ∃ a n c zs, w.heap[g]? = some (.cells #[.slice a n c, .int .i64 (p : Int)] 136 (0, 0)) ∧ Rd w a n 1 (ints .u8 zs) ∧ Bs zs ∧ n ≤ 2000 ∧ (∀ x, a = some x → 1 ≤ n → x.block < g)

theorem RdAt.lt {w : World} {g p : Nat} (h : RdAt w g p) : g < w.heap.size := by
  obtain ⟨a, n, c, zs, hb, _⟩ := h
  exact (Array.getElem?_eq_some_iff.1 hb).1
theorem RdAt.chg {w w' : World} {g p : Nat} {F : Nat → Prop} (h : RdAt w g p) (hc : Chg F w w') (hF : ∀ b, b ≤ g → ¬ F b) : RdAt w' g p := by
  have hlt := h.lt
  obtain ⟨a, n, c, zs, hb, hr, hz, hn, ha⟩ := h
  refine ⟨a, n, c, zs, by rw [hc.block g hlt (hF g (Nat.le_refl _))]; exact hb, ?_, hz, hn, ha⟩
  by_cases h0 : n = 0
  · subst h0
    have h1 : ints .u8 zs = [] := List.eq_nil_of_length_eq_zero (by have := hr.1; omega)
    rw [h1]
    exact Rd.nil _ _ _
  · exact hr.chg hc (fun x e => hF _ (Nat.le_of_lt (ha x e (by omega))))
theorem RdAt.grew {w w' : World} {g p : Nat} (h : RdAt w g p) (hb : Grew w w') : RdAt w' g p := h.chg (F := fun _ => False) (Chg.of_below hb) (fun _ _ hf => hf)

/-- A number of a range was returned. -/
def PickRes (k v : Int) : Prop := 0 ≤ v ∧ (1 ≤ k → v < k)

set_option maxRecDepth 100000 in
theorem pick (g p : Nat) (k : Int) (w : World) (h : RdAt w g p) (hp : p ≤ 1099511627776) (hk : k ≤ 1099511627776) :
    Calls Tryz.prog 40 #[.pointer (some ⟨g, 0, none⟩), .int .i64 k] w fun e w' => ∃ v : Int, e = .returned (.int .i64 v) ∧ PickRes k v ∧ RdAt w' g (p + 1) ∧ Chg (fun b => b = g) w w' := by
  obtain ⟨a, n, c, zs, hb, hr, hz, hn, ha⟩ := h
  have hlt := (Array.getElem?_eq_some_iff.1 hb).1
  obtain ⟨w1, hw1⟩ : ∃ w1, w1 = w.setCell ⟨g, 1, none⟩ (.int .i64 ((p : Int) + 1)) := ⟨_, rfl⟩
  have hchg : Chg (fun b => b = g) w w1 := by
    rw [hw1]
    exact ⟨rfl, rfl, rfl, by simp, fun j _ hj => Below.heap_setCell _ _ _ _ hj⟩
  have hr1 : Rd w1 a n 1 (ints .u8 zs) := by
    by_cases h0 : n = 0
    · subst h0
      have h1 : ints .u8 zs = [] := List.eq_nil_of_length_eq_zero (by have := hr.1; omega)
      rw [h1]
      exact Rd.nil _ _ _
    · exact hr.chg hchg (fun x e he => by have := ha x e (by omega); omega)
  have hat : RdAt w1 g (p + 1) := by
    refine ⟨a, n, c, zs, ?_, hr1, hz, hn, ha⟩
    rw [hw1]
    simpa using heap_setCell_same w g 1 _ _ (.int .i64 ((p : Int) + 1)) hb
  have c0 := cell_of_row w g 0 _ _ _ hb
  have c1 := cell_of_row w g 1 _ _ _ hb
  have f1 := frozen_of_row w g 1 _ _ hb
  simp at c0 c1
  have g0 : w1.cell? ⟨g, 0, none⟩ = some (.slice a n c) := by rw [hw1, World.cell?_setCell_other _ _ _ _ (by simp)]; exact c0
  have g1 : w1.cell? ⟨g, 1, none⟩ = some (.int .i64 ((p : Int) + 1)) := by rw [hw1]; exact World.cell?_setCell_same _ _ _ c1
  have hset := hw1.symm
  have HR := Lib.hid hr1; clear hr1 hr
  have HZ := Lib.hid hz; clear hz
  have HA := Lib.hid hat; clear hat
  have HC := Lib.hid hchg; clear hchg
  clear hb hlt ha hw1
  by_cases h1 : k < 1
  · have d1 : decide (k < 1) = true := by simpa using h1
    have HP : Hid (PickRes k 0) := Lib.hid ⟨by omega, by omega⟩
    go_enter Tryz.func40, Tryz.ntmps40
    go_wp2
    go_ret
    exact ⟨0, rfl, HP.out, HA.out, HC.out⟩
  · have d1 : decide (k < 1) = false := by simpa using h1
    have hk1 : 1 ≤ k := by omega
    clear h1
    by_cases hn0 : n = 0
    · subst hn0
      have HP : Hid (PickRes k 0) := Lib.hid ⟨by omega, by omega⟩
      go_enter Tryz.func40, Tryz.ntmps40
      go_wp2
      go_ret
      exact ⟨0, rfl, HP.out, HA.out, HC.out⟩
    · have d2 : ((n : Int) == 0) = false := by simp; omega
      have hnp : 1 ≤ n := by omega
      clear hn0
      by_cases hpn : p < n
      · obtain ⟨b, off, x, rfl, hx, hcell⟩ := HR.out.at1 hpn
        obtain ⟨b1, b2⟩ := HZ.out _ _ hx
        clear hx
        have HP : Hid (PickRes k (x % k)) := Lib.hid ⟨Int.emod_nonneg _ (by omega), fun _ => Int.emod_lt_of_pos _ (by omega)⟩
        have hkz : (k == 0) = false := by simp; omega
        go_enter Tryz.func40, Tryz.ntmps40
        go_wp2
        go_ret
        exact ⟨_, rfl, HP.out, HA.out, HC.out⟩
      · have d3 : decide (p < n) = false := by simp; omega
        clear hpn
        obtain ⟨b, off, x, rfl, hx, hcx⟩ := HR.out.at1 (i := p % n) (Nat.mod_lt _ (by omega))
        obtain ⟨b', off', y, e, hy, hcy⟩ := HR.out.at1 (i := (p * 7 + 3) % n) (Nat.mod_lt _ (by omega))
        simp only [Option.some.injEq, Addr.mk.injEq, and_true] at e
        obtain ⟨rfl, rfl⟩ := e
        obtain ⟨b1, b2⟩ := HZ.out _ _ hx
        obtain ⟨b3, b4⟩ := HZ.out _ _ hy
        clear hx hy
        have hnn : (0 : Int) < (n : Int) := by omega
        have i1 : 0 ≤ (p : Int) % (n : Int) := Int.emod_nonneg _ (by omega)
        have i2 : (p : Int) % (n : Int) < (n : Int) := Int.emod_lt_of_pos _ hnn
        have i3 : 0 ≤ ((p : Int) * 7 + 3) % (n : Int) := Int.emod_nonneg _ (by omega)
        have i4 : ((p : Int) * 7 + 3) % (n : Int) < (n : Int) := Int.emod_lt_of_pos _ hnn
        have j0 : 0 ≤ (p : Int) / (n : Int) := Int.ediv_nonneg (by omega) (by omega)
        have j1 : (p : Int) / (n : Int) ≤ p := Int.ediv_le_self _ (by omega)
        have hkz : (k == 0) = false := by simp; omega
        obtain ⟨Z, hxor, z0, z1⟩ : ∃ Z : Int, bits .xor .i64 (x * 131 + y * 1117 + (p : Int) * 29 + (p : Int) / (n : Int) * 53) ((x * 131 + y * 1117 + (p : Int) * 29 + (p : Int) / (n : Int) * 53) / 64) = Z ∧ 0 ≤ Z ∧ Z ≤ 4611686018427387904 := by
          refine ⟨_, xor_i64 _ _ (by omega) (by omega) (by omega) (by omega), by omega, ?_⟩
          have hlt : (x * 131 + y * 1117 + (p : Int) * 29 + (p : Int) / (n : Int) * 53).toNat ^^^ ((x * 131 + y * 1117 + (p : Int) * 29 + (p : Int) / (n : Int) * 53) / 64).toNat < 2 ^ 62 := Nat.xor_lt_two_pow (by omega) (by omega)
          omega
        have HPk : Hid (PickRes k (Z % k)) := Lib.hid ⟨Int.emod_nonneg _ (by omega), fun _ => Int.emod_lt_of_pos _ (by omega)⟩
        go_enter Tryz.func40, Tryz.ntmps40
        go_wp2
        go_quiet (fail)
        go_wp2
        go_ret
        exact ⟨_, rfl, HPk.out, HA.out.grew (grew_drewN _ _), HC.out.trans (Chg.of_below (F := fun b => b = g) (grew_drewN _ _)) (fun _ _ h => h) (fun _ _ h => h)⟩

/-- Block `g` is a reader of a code, at most at place `P`. -/
def RdLe (w : World) (g P : Nat) : Prop := ∃ p, p ≤ P ∧ RdAt w g p
theorem RdLe.lt {w : World} {g P : Nat} (h : RdLe w g P) : g < w.heap.size := by
  obtain ⟨p, _, h⟩ := h
  exact h.lt
theorem RdLe.chg {w w' : World} {g P : Nat} {F : Nat → Prop} (h : RdLe w g P) (hc : Chg F w w') (hF : ∀ b, b ≤ g → ¬ F b) : RdLe w' g P := by
  obtain ⟨p, hp, h⟩ := h
  exact ⟨p, hp, h.chg hc hF⟩
theorem RdLe.grew {w w' : World} {g P : Nat} (h : RdLe w g P) (hb : Grew w w') : RdLe w' g P := h.chg (F := fun _ => False) (Chg.of_below hb) (fun _ _ hf => hf)
theorem RdLe.mono {w : World} {g P Q : Nat} (h : RdLe w g P) (hq : P ≤ Q) : RdLe w g Q := by
  obtain ⟨p, hp, h⟩ := h
  exact ⟨p, Nat.le_trans hp hq, h⟩

/-- Nothing old has changed but block `g`. -/
abbrev ChgG (g : Nat) (w w' : World) : Prop := Chg (fun b => b = g) w w'
theorem ChgG.trans {g : Nat} {a b c : World} (h : ChgG g a b) (k : ChgG g b c) : ChgG g a c := Chg.trans h k (fun _ _ h => h) (fun _ _ h => h)
theorem ChgG.grew {g : Nat} {a b c : World} (h : ChgG g a b) (k : Grew b c) : ChgG g a c := ChgG.trans h (Chg.of_below k)
theorem ChgG.refl (g : Nat) (a : World) : ChgG g a a := Chg.refl _ _
theorem ChgG.of_grew {g : Nat} {a b : World} (k : Grew a b) : ChgG g a b := Chg.of_below k

theorem pickLe (g P : Nat) (k : Int) (w : World) (h : RdLe w g P) (hp : P ≤ 1099511627776) (hk : k ≤ 1099511627776) :
    Calls Tryz.prog 40 #[.pointer (some ⟨g, 0, none⟩), .int .i64 k] w fun e w' => ∃ v : Int, e = .returned (.int .i64 v) ∧ PickRes k v ∧ RdLe w' g (P + 1) ∧ ChgG g w w' := by
  obtain ⟨p, hpP, h⟩ := h
  refine (pick g p k w h (by omega) hk).mono ?_
  rintro e w' ⟨v, rfl, h1, h2, h3⟩
  exact ⟨v, rfl, h1, ⟨p + 1, by omega, h2⟩, h3⟩

/-- One of the numbers of a literal, its place picked. -/
theorem lit_cell {w w' : World} {F : Nat → Prop} (zs : List Int) {e : TypeId} {v : Int} (h : Chg F (w.alloc (.cells (ints .i64 zs).toArray e)) w') (hF : ¬ F w.heap.size) (h0 : 0 ≤ v) (h1 : v < zs.length) :
    ∃ y ∈ zs, w'.cell? ⟨w.heap.size, v.toNat, none⟩ = some (.int .i64 y) := by
  have hlt : v.toNat < zs.length := by omega
  refine ⟨zs[v.toNat], List.getElem_mem hlt, ?_⟩
  have hb : w'.heap[w.heap.size]? = some (.cells (ints .i64 zs).toArray e) := by
    rw [h.block _ (by simp) hF]
    exact heap_alloc_new w _
  rw [cell_of_row w' _ _ _ _ _ hb]
  simp [ints, hlt]

theorem l20Open (a : Option Addr) (n cap : Nat) (zs : List Int) (w : World) (hr : Rd w a n 1 (ints .u8 zs)) (hz : Bs zs) (hc : n ≤ cap ∧ cap ≤ maxLen) :
    Calls Tryz.prog 39 #[.slice a n cap] w fun e w' => e = .returned (.pointer (some ⟨w.heap.size, 0, none⟩)) ∧ RdLe w' w.heap.size 0 ∧ Grew w w' := by
  obtain ⟨hc1, hc2⟩ := hc
  unfold maxLen at hc2
  have hold : ∀ x, a = some x → 1 ≤ n → x.block < w.heap.size := by
    intro x e hn
    obtain ⟨b, off, y, e2, _, hcell⟩ := hr.at1 (i := 0) (by omega)
    rw [e] at e2
    obtain rfl := Option.some.inj e2
    exact World.block_lt_of_cell? w _ hcell
  by_cases h : 2000 < n
  · obtain ⟨b, off, y, rfl, _, hcell⟩ := hr.at1 (i := 0) (by omega)
    have hd : (2000 : Int) < (n : Int) := by omega
    have hsub := hr.sub 0 2000 (by omega)
    simp only [Nat.add_zero, List.drop_zero] at hsub
    have HS := Lib.hid hsub; clear hsub
    have HO := Lib.hid hold; clear hold
    have HZ := Lib.hid (bs_take hz 2000); clear hz
    clear hr hcell
    go_enter Tryz.func39, Tryz.ntmps39
    go_wp2
    go_ret
    refine ⟨rfl, ⟨0, Nat.le_refl _, _, _, _, _, heap_alloc_new w _, HS.out.grew ((Below.refl _ _).alloc (Nat.le_refl _) _), HZ.out, Nat.le_refl _, fun x e _ => HO.out x e (by omega)⟩, (Below.refl _ _).alloc (Nat.le_refl _) _⟩
  · have hd : ¬ (2000 : Int) < (n : Int) := by omega
    have HO := Lib.hid hold; clear hold
    have HZ := Lib.hid hz; clear hz
    have HR := Lib.hid hr; clear hr
    go_enter Tryz.func39, Tryz.ntmps39
    go_wp2
    go_ret
    refine ⟨rfl, ⟨0, Nat.le_refl _, _, _, _, _, heap_alloc_new w _, HR.out.grew ((Below.refl _ _).alloc (Nat.le_refl _) _), HZ.out, by omega, fun x e _ => HO.out x e (by omega)⟩, (Below.refl _ _).alloc (Nat.le_refl _) _⟩

/-- What was returned: a number with a property; of the world behind: R. -/
def RetI (p : Int → Prop) (R : World → Prop) (e : Ending) (w' : World) : Prop := ∃ v : Int, e = .returned (.int .i64 v) ∧ p v ∧ R w'
/-- Go's numbers of the program. -/
def N16 (v : Int) : Prop := -32768 ≤ v ∧ v ≤ 32767

/-- A bool was returned; of the world behind: R. -/
def RetB (R : World → Prop) (e : Ending) (w' : World) : Prop := ∃ b : Bool, e = .returned (.bool b) ∧ R w'

theorem odd (g P : Nat) (k : Int) (w : World) (h : RdLe w g P) (hp : P ≤ 1099511627776) (hk : -1099511627776 ≤ k ∧ k ≤ 1099511627776) :
    Calls Tryz.prog 42 #[.pointer (some ⟨g, 0, none⟩), .int .i64 k] w (RetB fun w' => RdLe w' g (P + 1) ∧ ChgG g w w') := by
  obtain ⟨hk1, hk2⟩ := hk
  by_cases h9 : k < 9000
  · have hd : decide (k < 9000) = true := by simpa using h9
    go_enter Tryz.func42, Tryz.ntmps42
    go_wp2_with fail
    refine (pickLe g P k w h hp hk2).mono ?_
    rintro e w' ⟨v, rfl, h1, h2, h3⟩
    have H2 := Lib.hid h2; clear h2
    have H3 := Lib.hid h3; clear h3
    go_wp2
    go_ret
    exact ⟨_, rfl, H2.out, H3.out⟩
  · have hd : decide (k < 9000) = false := by simpa using h9
    have H2 := Lib.hid h; clear h
    go_enter Tryz.func42, Tryz.ntmps42
    go_wp2
    go_ret
    exact ⟨_, rfl, H2.out.mono (by omega), ChgG.refl _ _⟩

theorem l20Num (g P : Nat) (w : World) (h : RdLe w g P) (hp : P + 3 ≤ 1099511627776) :
    Calls Tryz.prog 43 #[.pointer (some ⟨g, 0, none⟩)] w (RetI N16 fun w' => RdLe w' g (P + 3) ∧ ChgG g w w') := by
  have HP := Lib.hid h; clear h
  go_enter Tryz.func43, Tryz.ntmps43
  go_wp2_with fail
  refine (pickLe g P _ w HP.out (by omega) (by omega)).mono ?_
  rintro e w1 ⟨v, rfl, ⟨h0, h1⟩, h2, h3⟩
  have h1 := h1 (by omega)
  have HP1 := Lib.hid h2; clear h2
  have HC1 := Lib.hid h3; clear h3
  have hv : v = 0 ∨ v = 1 ∨ v = 2 ∨ v = 3 := by omega
  rcases hv with rfl | rfl | rfl | rfl
  · go_wp2_with fail
    refine (pickLe g (P + 1) _ _ (HP1.out.grew ((Below.refl _ _).alloc (Nat.le_refl _) _)) (by omega) (by omega)).mono ?_
    rintro e w2 ⟨u, rfl, ⟨u0, u1⟩, h2, h3⟩
    have u1 := u1 (by omega)
    obtain ⟨y, hy, hcell⟩ := lit_cell [0, 1, -1, 2, 3, -2, 10, -10, 100] h3 (by have := HP1.out.lt; omega) u0 u1
    have HP2 := Lib.hid h2; clear h2
    have HC2 := Lib.hid ((HC1.out.grew ((Below.refl _ _).alloc (Nat.le_refl _) _)).trans h3); clear h3
    have HY := Lib.hid hy; clear hy
    go_wp2
    go_ret
    refine ⟨y, rfl, ?_, HP2.out.mono (by omega), HC2.out⟩
    have hy := HY.out
    simp at hy
    unfold N16
    omega
  · go_wp2_with fail
    refine (pickLe g (P + 1) _ _ HP1.out (by omega) (by omega)).mono ?_
    rintro e w2 ⟨u, rfl, ⟨u0, u1⟩, h2, h3⟩
    have u1 := u1 (by omega)
    have HP2 := Lib.hid h2; clear h2
    have HC2 := Lib.hid (HC1.out.trans h3); clear h3
    go_wp2
    go_ret
    exact ⟨_, rfl, by unfold N16; omega, HP2.out.mono (by omega), HC2.out⟩
  · go_wp2_with fail
    refine (pickLe g (P + 1) _ _ (HP1.out.grew ((Below.refl _ _).alloc (Nat.le_refl _) _)) (by omega) (by omega)).mono ?_
    rintro e w2 ⟨u, rfl, ⟨u0, u1⟩, h2, h3⟩
    have u1 := u1 (by omega)
    obtain ⟨y, hy, hcell⟩ := lit_cell [-32768, 32767, -32767, 32766, 1000, -1000, 255, 256, -255] h3 (by have := HP1.out.lt; omega) u0 u1
    have HP2 := Lib.hid h2; clear h2
    have HC2 := Lib.hid ((HC1.out.grew ((Below.refl _ _).alloc (Nat.le_refl _) _)).trans h3); clear h3
    have HY := Lib.hid hy; clear hy
    go_wp2
    go_ret
    refine ⟨y, rfl, ?_, HP2.out.mono (by omega), HC2.out⟩
    have hy := HY.out
    simp at hy
    unfold N16
    omega
  · go_wp2_with fail
    refine (pickLe g (P + 1) _ _ HP1.out (by omega) (by omega)).mono ?_
    rintro e w2 ⟨u, rfl, ⟨u0, u1⟩, h2, h3⟩
    have u1 := u1 (by omega)
    have HP2 := Lib.hid h2; clear h2
    have HC2 := Lib.hid (HC1.out.trans h3); clear h3
    go_wp2_with fail
    refine (pickLe g (P + 2) _ _ HP2.out (by omega) (by omega)).mono ?_
    rintro e w3 ⟨x, rfl, ⟨x0, x1⟩, h2, h3⟩
    have x1 := x1 (by omega)
    have HP3 := Lib.hid h2; clear h2
    have HC3 := Lib.hid (HC2.out.trans h3); clear h3
    go_wp2
    go_ret
    exact ⟨_, rfl, by unfold N16; omega, HP3.out.mono (by omega), HC3.out⟩

theorem intInfo : (Tryz.prog.info? 3).map (fun i => (i.zero, i.size, i.bytes)) = some (some (.int .i64 0), 1, 8) := by kernel_rfl
theorem intEl : El Tryz.prog 36 3 (.int .i64 0) 1 8 := El.mk' intInfo Tryz.underlying36 rfl (by omega)

/-- All are Go's numbers of the program. -/
def Ns (zs : List Int) : Prop := ∀ (i : Nat) (x : Int), zs[i]? = some x → N16 x

theorem Chg.to_g {g : Nat} {w w1 w2 : World} {row : Option Nat} (h : ChgG g w w1) (k : w1.grownBy w2 row) (hr : ∀ b, row = some b → w.heap.size ≤ b) : ChgG g w w2 :=
  Chg.trans h (Chg.of_grownBy k) (fun _ _ h => h) (fun i hi he => by have := hr i he; omega)

theorem l20Nums (g P : Nat) (m : Nat) (w : World) (h : RdLe w g P) (hp : P + 3 * m ≤ 1099511627776) :
    Calls Tryz.prog 44 #[.pointer (some ⟨g, 0, none⟩), .int .i64 m] w fun e w' => ∃ v zs, e = .returned v ∧ Ns zs ∧ w'.ownsRow w.heap.size 3 1 v m (ints .i64 zs) ∧ RdLe w' g (P + 3 * m) ∧ ChgG g w w' := by
  have hg := h.lt
  have HP := Lib.hid h; clear h
  have H0 := Lib.hid (World.ownsRow_lit w #[] 0 (base := w.heap.size) (size := 1) (e := 3) (Nat.le_refl _) (Nat.zero_le _) rfl)
  have hb0 : Grew w (w.alloc (.cells #[] 3)) := (Below.refl _ _).alloc (Nat.le_refl _) _
  have HB0 := Lib.hid hb0; clear hb0
  go_enter Tryz.func44, Tryz.ntmps44
  go_wp2
  go_loopw [5, 6] (fun v i wr => ∃ (k : Nat) (zs : List Int), k ≤ m ∧ i = .int .i64 k ∧ Ns zs ∧ wr.ownsRow w.heap.size 3 1 v k (ints .i64 zs) ∧ RdLe wr g (P + 3 * k) ∧ ChgG g w wr) (fun _ i _ => m - (intOf i).toNat)
  case atStart => exact ⟨0, [], Nat.zero_le _, rfl, fun i x h => by simp at h, H0.out, HP.out.grew HB0.out, ChgG.of_grew HB0.out⟩
  case round =>
    obtain ⟨k, zs, hk, rfl, hns, ho, hrd, hch⟩ := hrel
    have HN := Lib.hid hns; clear hns
    have HO := Lib.hid ho; clear ho
    have HR := Lib.hid hrd; clear hrd
    have HC := Lib.hid hch; clear hch
    by_cases hlt : k < m
    · go_wp2_with fail
      refine (l20Num g (P + 3 * k) _ HR.out (by omega)).mono ?_
      rintro e w2 ⟨y, rfl, hy, h2, h3⟩
      have ho2 := owns_chg HO.out h3 (fun b hb e => by have := (HO.out.lt b hb).1; omega)
      have hsz := Nat.le_trans HC.out.size h3.size
      obtain ⟨v3, w3, hrun3, o3, g3, -⟩ := owns_append_lit (P := Tryz.prog) w2 intEl ho2 1 [.int .i64 y] rfl (by simp [Value.oneCell']) (by omega) (by omega) hsz
      have hc3 : ChgG g w w3 := (HC.out.trans h3).to_g g3 (fun b hb => (ho2.lt b hb).1)
      have hr3 : RdLe w3 g (P + 3 * (k + 1)) := (h2.chg (Chg.of_grownBy g3) (fun b hb e => by have := (ho2.lt b e).1; omega)).mono (by omega)
      have R3 := Lib.hid hrun3; clear hrun3
      have O3 := Lib.hid o3; clear o3
      have C3 := Lib.hid hc3; clear hc3
      have D3 := Lib.hid hr3; clear hr3
      have HY := Lib.hid hy; clear hy
      clear h2 h3 ho2 g3
      go_wp2_with (at_builtin; refine wpList_append_run rfl _ _ rfl rfl rfl rfl R3.out ?_)
      go_roundw
      case rel =>
        refine ⟨k + 1, zs ++ [y], by omega, by go_num, fun i x hx => ?_, by rw [ints_append]; exact O3.out, D3.out, C3.out⟩
        rw [List.getElem?_append] at hx
        split at hx
        · exact HN.out _ _ hx
        · have : x = y := by
            rcases hj : i - zs.length with _ | j
            · rw [hj] at hx; exact (Option.some.inj hx).symm
            · rw [hj] at hx; simp at hx
          rw [this]
          exact HY.out
      case measure => simp [intOf]; omega
    · obtain rfl : k = m := by omega
      go_wp2
      go_ret
      exact ⟨_, zs, rfl, HN.out, HO.out, HR.out, HC.out⟩



end Go.Proofs.YtpmfpgbpndobpaaGreat

/- A class of worlds for regions that draw their order: what has grown out of a world. No condition. -/
namespace Go.Proofs.YtpmfpgbpndobpaaGreat
open Go.RowKit
set_option linter.unusedVariables false

/-- What a world has grown into. -/
structure Gw (w : World) where
  val : World
  grew : Grew w val
instance (w : World) : Nonempty (Gw w) := ⟨⟨w, Below.refl _ _⟩⟩
/-- A world that has grown out of another one. -/
def ext (w : World) (x : Gw w) : World := x.val
theorem ext_grew (w : World) (x : Gw w) : Grew w (ext w x) := x.grew
theorem ext_cell (w : World) (x : Gw w) (a : Addr) (h : a.block < w.heap.size) : (ext w x).cell? a = w.cell? a := (ext_grew w x).cell h
theorem ext_frozen (w : World) (x : Gw w) (a : Addr) (h : a.block < w.heap.size) : (ext w x).frozen? a = w.frozen? a := (ext_grew w x).frozen h

theorem ext_of {w w' : World} (h : Grew w w') : ∃ x, w' = ext w x := ⟨⟨w', h⟩, rfl⟩
theorem ext_size (w : World) (x : Gw w) : w.heap.size ≤ (ext w x).heap.size := (ext_grew w x).size
theorem ext_lt (w : World) (x : Gw w) (b : Nat) (h : b < w.heap.size) : b < (ext w x).heap.size := Nat.lt_of_lt_of_le h (ext_size w x)
theorem ext_le (w : World) (x : Gw w) (b : Nat) (h : b < w.heap.size) : b ≤ (ext w x).heap.size := Nat.le_of_lt (ext_lt w x b h)
theorem ext_le1 (w : World) (x : Gw w) (b k : Nat) (h : b < w.heap.size) : b ≤ (ext w x).heap.size + k := Nat.le_trans (ext_le w x b h) (Nat.le_add_right _ _)

theorem lt_s2 (n : Nat) : n < n + 1 + 1 := by omega
theorem lt_s3 (n : Nat) : n < n + 1 + 1 + 1 := by omega
theorem lt_s4 (n : Nat) : n < n + 1 + 1 + 1 + 1 := by omega
theorem lt_s5 (n : Nat) : n < n + 1 + 1 + 1 + 1 + 1 := by omega
theorem lt_s6 (n : Nat) : n < n + 1 + 1 + 1 + 1 + 1 + 1 := by omega
theorem ext_lt1 (w : World) (x : Gw w) (b i : Nat) (h : b < w.heap.size) : b < (ext w x).heap.size + i := Nat.lt_of_lt_of_le (ext_lt w x b h) (Nat.le_add_right _ _)
theorem ext_lt2 (w : World) (x : Gw w) (b i j : Nat) (h : b < w.heap.size) : b < (ext w x).heap.size + i + j := Nat.lt_of_lt_of_le (ext_lt1 w x b i h) (Nat.le_add_right _ _)
theorem ext_lt3 (w : World) (x : Gw w) (b i j k : Nat) (h : b < w.heap.size) : b < (ext w x).heap.size + i + j + k := Nat.lt_of_lt_of_le (ext_lt2 w x b i j h) (Nat.le_add_right _ _)
/-- What grows out of a grown world has grown out of the first. -/
theorem ext_col {w w' : World} {x : Gw w} (h : Grew (ext w x) w') : ∃ y, w' = ext w y := ⟨⟨w', x.grew.trans (h.mono x.grew.size)⟩, rfl⟩
theorem ext_cold {w w' : World} {x : Gw w} (h : Grew (ext w x).drew w') : ∃ y, w' = ext w y :=
  ext_col (w := w) (x := ⟨(ext w x).drew, x.grew.trans ((grew_drewN (ext w x) 1).mono x.grew.size)⟩) h
/-- A block that is there is there when blocks are added. -/
theorem lt3 {b n : Nat} (h : b < n) : b < n + 1 ∧ b < n + 1 + 1 ∧ b < n + 1 + 1 + 1 := by omega
/-! What has grown: goals 'Grew w W', W written out, close by 'grew_ext', 'grew_al', 'grew_dn', 'grew_set'. -/
theorem grew_ext {w W : World} (h : Grew w W) (x : Gw W) : Grew w (ext W x) := h.trans ((ext_grew W x).mono h.size)
theorem grew_al {w W : World} (h : Grew w W) (o : Obj) : Grew w (W.alloc o) := h.alloc h.size o
theorem grew_dn {w W : World} (h : Grew w W) (n : Nat) : Grew w (W.drewN n) := h.trans ((grew_drewN W n).mono h.size)
theorem grew_d {w W : World} (h : Grew w W) : Grew w W.drew := grew_dn h 1
theorem grew_set {w W : World} {b o : Nat} {s : Option Nat} (h : Grew w W) (hp : w.heap.size ≤ b) (u : Value) : Grew w (W.setCell ⟨b, o, s⟩ u) := h.setCell (p := ⟨b, o, s⟩) hp u
theorem grew_tr {w W W' : World} (h : Grew w W) (k : Grew W W') : Grew w W' := h.trans (k.mono h.size)
theorem owns_set {w : World} {B : Nat} {e : TypeId} {size n : Nat} {v : Value} {xs : List Value} (h : w.ownsRow B e size v n xs) {p : Addr} (hp : p.block < B) (u : Value) : (w.setCell p u).ownsRow B e size v n xs := by
  refine ⟨h.1, ?_⟩
  rcases h.2 with hn | ⟨g, cap, cur, rfl, hb, hg, r⟩
  · exact .inl hn
  · refine .inr ⟨g, cap, cur, rfl, hb, ?_, r⟩
    rw [Below.heap_setCell w p u g (by omega)]
    exact hg
theorem le_ext {n : Nat} {W : World} (x : Gw W) (h : n ≤ W.heap.size) : n ≤ (ext W x).heap.size := Nat.le_trans h (ext_size W x)
theorem le_al {n : Nat} {W : World} (o : Obj) (h : n ≤ W.heap.size) : n ≤ (W.alloc o).heap.size := by simp; omega
theorem le_pl {n m k : Nat} (h : n ≤ m) : n ≤ m + k := Nat.le_trans h (Nat.le_add_right _ _)

section
variable {P : Program} {f : FuncId} {args : Array Value} {w : World} {x : Gw w} {v : Value}
theorem ext_same (h : Calls P f args (ext w x) fun e w' => e = .returned v ∧ ext w x = w') : Calls P f args (ext w x) fun e w'' => e = .returned v ∧ ∃ y, w'' = ext w y :=
  h.mono fun _ _ ⟨he, hw⟩ => ⟨he, x, hw.symm⟩
theorem ext_grow (h : Calls P f args (ext w x) fun e w' => e = .returned v ∧ Grew (ext w x) w') : Calls P f args (ext w x) fun e w'' => e = .returned v ∧ ∃ y, w'' = ext w y :=
  h.mono fun _ w' ⟨he, hg⟩ => ⟨he, ⟨w', x.grew.trans (hg.mono x.grew.size)⟩, rfl⟩
end

/-- A region that draws its order, whose operations read and whose calls make new memory at most: one walk, in the order of the text. -/
theorem wp_region_ext {P : Program} {id : Nat} {Q : Exit → Act → World → Prop} {a : Act} {w : World} {l : List Oper} (hm : P.follows .mixedOrders = true) (hB : Region.lexB .any l.toArray = true)
    (h : wpQuiet P l.toArray (fun w' => ∃ x, w' = ext w x) (fun a' => ∀ w', (∃ x, w' = ext w x) → Q .normal a' w') l a) : (Code.region id l.toArray true).wp P Q a w :=
  wp_region_quiet (C := fun w' => ∃ x, w' = ext w x) hm hB ⟨⟨w.drewN 1, grew_drewN w 1⟩, rfl⟩ (by simpa using h)
/-- The same in a world that has grown already. -/
theorem wp_region_ext2 {P : Program} {id : Nat} {Q : Exit → Act → World → Prop} {a : Act} {w : World} {x : Gw w} {l : List Oper} (hm : P.follows .mixedOrders = true) (hB : Region.lexB .any l.toArray = true)
    (h : wpQuiet P l.toArray (fun w' => ∃ y, w' = ext w y) (fun a' => ∀ w', (∃ y, w' = ext w y) → Q .normal a' w') l a) : (Code.region id l.toArray true).wp P Q a (ext w x) :=
  wp_region_quiet (C := fun w' => ∃ y, w' = ext w y) hm hB ⟨⟨(ext w x).drewN 1, grew_dn (ext_grew w x) 1⟩, rfl⟩ (by simpa using h)
/-- What has grown, by the words above. -/
theorem gr {w W : World} (h : Grew w W := by repeat (first | with_reducible exact Below.refl _ _ | with_reducible assumption | with_reducible apply grew_ext | with_reducible apply grew_al | with_reducible apply grew_dn | with_reducible apply grew_d | (with_reducible refine grew_set ?_ (by first | omega | (repeat (first | with_reducible exact Nat.le_refl _ | with_reducible apply le_pl | with_reducible apply le_ext | with_reducible apply le_al))) _))) : Grew w W := h
end Go.Proofs.YtpmfpgbpndobpaaGreat

/- A class of worlds for what draws: all old stands but the reader's block. No condition. -/
namespace Go.Proofs.YtpmfpgbpndobpaaGreat
open Go.RowKit
set_option linter.unusedVariables false

/-- What a world has become behind reading on in block g, up to place P. -/
structure Gd (g P : Nat) (W : World) where
  val : World
  chg : ChgG g W val
  rd : RdLe val g P
  lt : g < W.heap.size
section
variable {g P : Nat} {W : World}
def extg (x : Gd g P W) : World := x.val
theorem dg_cell (x : Gd g P W) (a : Addr) (h : a.block < W.heap.size) (hg : a.block ≠ g) : (extg x).cell? a = W.cell? a := World.cell?_of_block (w := W) (w' := x.val) (a := a) (x.chg.block _ h hg)
theorem dg_frozen (x : Gd g P W) (a : Addr) (h : a.block < W.heap.size) (hg : a.block ≠ g) : (extg x).frozen? a = W.frozen? a := by
  have := x.chg.block _ h hg
  unfold World.frozen? extg
  rw [this]
theorem dg_size (x : Gd g P W) : W.heap.size ≤ (extg x).heap.size := x.chg.size
theorem dg_lt (x : Gd g P W) (b : Nat) (h : b < W.heap.size) : b < (extg x).heap.size := Nat.lt_of_lt_of_le h (dg_size x)
theorem dg_lt1 (x : Gd g P W) (b i : Nat) (h : b < W.heap.size) : b < (extg x).heap.size + i := Nat.lt_of_lt_of_le (dg_lt x b h) (Nat.le_add_right _ _)
theorem dg_lt2 (x : Gd g P W) (b i j : Nat) (h : b < W.heap.size) : b < (extg x).heap.size + i + j := Nat.lt_of_lt_of_le (dg_lt1 x b i h) (Nat.le_add_right _ _)
theorem dg_gt (x : Gd g P W) : g < (extg x).heap.size := dg_lt x g x.lt
theorem dg_ne (x : Gd g P W) : ¬ (extg x).heap.size = g := by have := dg_gt x; omega
theorem dg_ne1 (x : Gd g P W) (i : Nat) : ¬ (extg x).heap.size + i = g := by have := dg_gt x; omega
theorem dg_ne2 (x : Gd g P W) (i j : Nat) : ¬ (extg x).heap.size + i + j = g := by have := dg_gt x; omega
theorem dg_new (x : Gd g P W) (b : Nat) (h : b < W.heap.size) : ¬ b = (extg x).heap.size := by have := dg_lt x b h; omega
theorem dg_wen (x : Gd g P W) (b : Nat) (h : b < W.heap.size) : ¬ (extg x).heap.size = b := by have := dg_lt x b h; omega
theorem extg_of {w' : World} (h : ChgG g W w') (r : RdLe w' g P) (l : g < W.heap.size) : ∃ x : Gd g P W, w' = extg x := ⟨⟨w', h, r, l⟩, rfl⟩
theorem extg_col {P' : Nat} {x : Gd g P' W} {w' : World} (h : ChgG g (extg x) w') (r : RdLe w' g P) (l : g < (extg x).heap.size) : ∃ x : Gd g P W, w' = extg x := ⟨⟨w', ChgG.trans x.chg h, r, x.lt⟩, rfl⟩
theorem rd_ext (x : Gd g P W) : RdLe (extg x) g P := x.rd
theorem rd_al (h : RdLe W g P) (o : Obj) : RdLe (W.alloc o) g P := h.grew (grew_al (Below.refl _ _) o)
theorem rd_drew (h : RdLe W g P) : RdLe W.drew g P := h.grew (grew_d (Below.refl _ _))
theorem rd_set {p : Addr} (h : RdLe W g P) (hp : g < p.block) (u : Value) : RdLe (W.setCell p u) g P :=
  h.chg (F := fun b => b = p.block) ⟨rfl, rfl, rfl, by simp, fun k hk hn => Below.heap_setCell W p u k hn⟩ (fun b hb e => by omega)
theorem chg_ext {w : World} (h : ChgG g w W) (x : Gd g P W) : ChgG g w (extg x) := ChgG.trans h x.chg
theorem chg_al {w : World} (h : ChgG g w W) (o : Obj) : ChgG g w (W.alloc o) := h.grew (grew_al (Below.refl _ _) o)
theorem chg_drew {w : World} (h : ChgG g w W) : ChgG g w W.drew := h.grew (grew_d (Below.refl _ _))
theorem chg_set {w : World} {p : Addr} (h : ChgG g w W) (hp : w.heap.size ≤ p.block) (u : Value) : ChgG g w (W.setCell p u) :=
  Chg.trans h (⟨rfl, rfl, rfl, by simp, fun k hk hn => Below.heap_setCell W p u k hn⟩ : Chg (fun b => b = p.block) W (W.setCell p u)) (fun _ _ h => h) (fun i hi e => by omega)
end
theorem dg_le {g P n : Nat} {W : World} (x : Gd g P W) (h : n ≤ W.heap.size) : n ≤ (extg x).heap.size := Nat.le_trans h (dg_size x)

theorem lit_get (zs : List Int) {j : Nat} (h : j < zs.length) : ∃ y ∈ zs, (ints .i64 zs)[j]? = some (.int .i64 y) := ⟨zs[j], List.getElem_mem h, by simp [ints, h]⟩
/-- A draw: what it returns has a property; the code was read on by c at most. -/
def RetG (p : Value → Prop) (g P : Nat) (w : World) (e : Ending) (w' : World) : Prop := ∃ v, e = .returned v ∧ p v ∧ RdLe w' g P ∧ ChgG g w w'
def IsNat (k : Int) (v : Value) : Prop := ∃ j : Nat, v = .int .i64 j ∧ (1 ≤ k → (j : Int) < k)
def IsInt (v : Value) : Prop := ∃ n : Int, v = .int .i64 n
def IsN16 (v : Value) : Prop := ∃ n : Int, v = .int .i64 n ∧ N16 n
def IsBool (v : Value) : Prop := ∃ b : Bool, v = .bool b
def IsItv (v : Value) : Prop := ∃ lo hi : Int, v = .agg #[.int .i64 lo, .int .i64 hi]
theorem pickG {g P : Nat} {k : Int} {w : World} (h : RdLe w g P) (hp : P ≤ 1099511627776) (hk : k ≤ 1099511627776) :
    Calls Tryz.prog 40 #[.pointer (some ⟨g, 0, none⟩), .int .i64 k] w (RetG (IsNat k) g (P + 1) w) := by
  refine (pickLe g P k w h hp hk).mono ?_
  rintro e w' ⟨v, rfl, ⟨h0, h1⟩, h2, h3⟩
  exact ⟨_, rfl, ⟨v.toNat, by rw [Int.toNat_of_nonneg h0], by rw [Int.toNat_of_nonneg h0]; exact h1⟩, h2, h3⟩
theorem numG {g P : Nat} {w : World} (h : RdLe w g P) (hp : P + 3 ≤ 1099511627776) :
    Calls Tryz.prog 43 #[.pointer (some ⟨g, 0, none⟩)] w (RetG IsN16 g (P + 3) w) :=
  (l20Num g P w h hp).mono fun e w' ⟨v, he, hv, h2, h3⟩ => ⟨_, he, ⟨v, rfl, hv⟩, h2, h3⟩
theorem oddG {g P : Nat} {k : Int} {w : World} (h : RdLe w g P) (hp : P ≤ 1099511627776) (hk : -1099511627776 ≤ k ∧ k ≤ 1099511627776) :
    Calls Tryz.prog 42 #[.pointer (some ⟨g, 0, none⟩), .int .i64 k] w (RetG IsBool g (P + 1) w) :=
  (odd g P k w h hp hk).mono fun e w' ⟨b, he, h2, h3⟩ => ⟨_, he, ⟨b, rfl⟩, h2, h3⟩
theorem g_sz {p : Prop} (h : p := by (focus (first | ((repeat (first | with_reducible assumption | omega | with_reducible exact dg_gt _ | (simp only [World.size_alloc, World.size_setCell, World.size_drew]) | with_reducible apply Nat.lt_succ_of_lt | with_reducible apply dg_lt | with_reducible apply le_pl | with_reducible apply dg_le)); done) | assumption | omega | (simp only [World.size_alloc, World.size_setCell, World.size_drew]; first | done | omega | (repeat (first | with_reducible assumption | with_reducible exact dg_gt _ | with_reducible apply Nat.lt_succ_of_lt | with_reducible apply dg_lt | with_reducible apply le_pl | with_reducible apply Nat.le_trans ?_ (dg_size _))))))) : p := h
theorem g_rd {p : Prop} (h : p := by (repeat (first | with_reducible assumption | with_reducible exact rd_ext _ | with_reducible exact Hid.out (by assumption) | with_reducible apply rd_al | with_reducible apply rd_drew | (with_reducible apply rd_set; rotate_left; (focus (first | ((repeat (first | with_reducible assumption | omega | with_reducible exact dg_gt _ | (simp only [World.size_alloc, World.size_setCell, World.size_drew]) | with_reducible apply Nat.lt_succ_of_lt | with_reducible apply dg_lt | with_reducible apply le_pl | with_reducible apply dg_le)); done) | assumption | omega | (simp only [World.size_alloc, World.size_setCell, World.size_drew]; first | done | omega | (repeat (first | with_reducible assumption | with_reducible exact dg_gt _ | with_reducible apply Nat.lt_succ_of_lt | with_reducible apply dg_lt | with_reducible apply le_pl | with_reducible apply Nat.le_trans ?_ (dg_size _)))))))))) : p := h
theorem g_chg {p : Prop} (h : p := by (repeat (first | with_reducible exact ChgG.refl _ _ | with_reducible assumption | with_reducible refine chg_ext ?_ _ | with_reducible refine chg_al ?_ _ | with_reducible refine chg_drew ?_ | with_reducible refine chg_set ?_ (by (focus (first | ((repeat (first | with_reducible assumption | omega | with_reducible exact dg_gt _ | (simp only [World.size_alloc, World.size_setCell, World.size_drew]) | with_reducible apply Nat.lt_succ_of_lt | with_reducible apply dg_lt | with_reducible apply le_pl | with_reducible apply dg_le)); done) | assumption | omega | (simp only [World.size_alloc, World.size_setCell, World.size_drew]; first | done | omega | (repeat (first | with_reducible assumption | with_reducible exact dg_gt _ | with_reducible apply Nat.lt_succ_of_lt | with_reducible apply dg_lt | with_reducible apply le_pl | with_reducible apply Nat.le_trans ?_ (dg_size _))))))) _))) : p := h
end Go.Proofs.YtpmfpgbpndobpaaGreat
