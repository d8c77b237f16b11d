/- Contracts of the reference's readers of a code: what they return lies in its range, the code is read on. No condition. -/
import Derived.Test.YtcdfomoglkhboaaGreatDoorBase
import Derived.Outline
namespace Go.Proofs.YtcdfomoglkhboaaGreatDoor
open Go.RowKit
set_option linter.unusedVariables false

/-- Block `g` is a reader of a code at place `p`. -/
def RdAt (w : World) (g p : Nat) : Prop :=
  ∃ a n c zs, w.heap[g]? = some (.cells #[.slice a n c, .int .i64 (p : Int)] 110 (0, 0)) ∧ Rd w a n 1 (ints .u8 zs) ∧ Bs zs ∧ n ≤ 2000 ∧ (∀ x, a = some x → 1 ≤ n → x.block < g)

theorem RdAt.lt {w : World} {g p : Nat} (h : RdAt w g p) : g < w.heap.size := by
  obtain ⟨a, n, c, zs, hb, _⟩ := h
  exact (Array.getElem?_eq_some_iff.1 hb).1
theorem RdAt.chg {w w' : World} {g p : Nat} {F : Nat → Prop} (h : RdAt w g p) (hc : Chg F w w') (hF : ∀ b, b ≤ g → ¬ F b) : RdAt w' g p := by
  have hlt := h.lt
  obtain ⟨a, n, c, zs, hb, hr, hz, hn, ha⟩ := h
  refine ⟨a, n, c, zs, by rw [hc.block g hlt (hF g (Nat.le_refl _))]; exact hb, ?_, hz, hn, ha⟩
  by_cases h0 : n = 0
  · subst h0
    have h1 : ints .u8 zs = [] := List.eq_nil_of_length_eq_zero (by have := hr.1; omega)
    rw [h1]
    exact Rd.nil _ _ _
  · exact hr.chg hc (fun x e => hF _ (Nat.le_of_lt (ha x e (by omega))))
theorem RdAt.grew {w w' : World} {g p : Nat} (h : RdAt w g p) (hb : Grew w w') : RdAt w' g p := h.chg (F := fun _ => False) (Chg.of_below hb) (fun _ _ hf => hf)

/-- A number of a range was returned. -/
def PickRes (k v : Int) : Prop := 0 ≤ v ∧ (1 ≤ k → v < k)

set_option maxRecDepth 100000 in
theorem pick (g p : Nat) (k : Int) (w : World) (h : RdAt w g p) (hp : p ≤ 1099511627776) (hk : k ≤ 1099511627776) :
    Calls Tryz.prog 40 #[.pointer (some ⟨g, 0, none⟩), .int .i64 k] w fun e w' => ∃ v : Int, e = .returned (.int .i64 v) ∧ PickRes k v ∧ RdAt w' g (p + 1) ∧ Chg (fun b => b = g) w w' := by
  obtain ⟨a, n, c, zs, hb, hr, hz, hn, ha⟩ := h
  have hlt := (Array.getElem?_eq_some_iff.1 hb).1
  obtain ⟨w1, hw1⟩ : ∃ w1, w1 = w.setCell ⟨g, 1, none⟩ (.int .i64 ((p : Int) + 1)) := ⟨_, rfl⟩
  have hchg : Chg (fun b => b = g) w w1 := by
    rw [hw1]
    exact ⟨rfl, rfl, rfl, by simp, fun j _ hj => Below.heap_setCell _ _ _ _ hj⟩
  have hr1 : Rd w1 a n 1 (ints .u8 zs) := by
    by_cases h0 : n = 0
    · subst h0
      have h1 : ints .u8 zs = [] := List.eq_nil_of_length_eq_zero (by have := hr.1; omega)
      rw [h1]
      exact Rd.nil _ _ _
    · exact hr.chg hchg (fun x e he => by have := ha x e (by omega); omega)
  have hat : RdAt w1 g (p + 1) := by
    refine ⟨a, n, c, zs, ?_, hr1, hz, hn, ha⟩
    rw [hw1]
    simpa using heap_setCell_same w g 1 _ _ (.int .i64 ((p : Int) + 1)) hb
  have c0 := cell_of_row w g 0 _ _ _ hb
  have c1 := cell_of_row w g 1 _ _ _ hb
  have f1 := frozen_of_row w g 1 _ _ hb
  simp at c0 c1
  have g0 : w1.cell? ⟨g, 0, none⟩ = some (.slice a n c) := by rw [hw1, World.cell?_setCell_other _ _ _ _ (by simp)]; exact c0
  have g1 : w1.cell? ⟨g, 1, none⟩ = some (.int .i64 ((p : Int) + 1)) := by rw [hw1]; exact World.cell?_setCell_same _ _ _ c1
  have hset := hw1.symm
  have HR := Lib.hid hr1; clear hr1 hr
  have HZ := Lib.hid hz; clear hz
  have HA := Lib.hid hat; clear hat
  have HC := Lib.hid hchg; clear hchg
  clear hb hlt ha hw1
  by_cases h1 : k < 1
  · have d1 : decide (k < 1) = true := by simpa using h1
    have HP : Hid (PickRes k 0) := Lib.hid ⟨by omega, by omega⟩
    go_enter Tryz.func40, Tryz.ntmps40
    go_wp2
    go_ret
    exact ⟨0, rfl, HP.out, HA.out, HC.out⟩
  · have d1 : decide (k < 1) = false := by simpa using h1
    have hk1 : 1 ≤ k := by omega
    clear h1
    by_cases hn0 : n = 0
    · subst hn0
      have HP : Hid (PickRes k 0) := Lib.hid ⟨by omega, by omega⟩
      go_enter Tryz.func40, Tryz.ntmps40
      go_wp2
      go_ret
      exact ⟨0, rfl, HP.out, HA.out, HC.out⟩
    · have d2 : ((n : Int) == 0) = false := by simp; omega
      have hnp : 1 ≤ n := by omega
      clear hn0
      by_cases hpn : p < n
      · obtain ⟨b, off, x, rfl, hx, hcell⟩ := HR.out.at1 hpn
        obtain ⟨b1, b2⟩ := HZ.out _ _ hx
        clear hx
        have HP : Hid (PickRes k (x % k)) := Lib.hid ⟨Int.emod_nonneg _ (by omega), fun _ => Int.emod_lt_of_pos _ (by omega)⟩
        have hkz : (k == 0) = false := by simp; omega
        go_enter Tryz.func40, Tryz.ntmps40
        go_wp2
        go_ret
        exact ⟨_, rfl, HP.out, HA.out, HC.out⟩
      · have d3 : decide (p < n) = false := by simp; omega
        clear hpn
        obtain ⟨b, off, x, rfl, hx, hcx⟩ := HR.out.at1 (i := p % n) (Nat.mod_lt _ (by omega))
        obtain ⟨b', off', y, e, hy, hcy⟩ := HR.out.at1 (i := (p * 7 + 3) % n) (Nat.mod_lt _ (by omega))
        simp only [Option.some.injEq, Addr.mk.injEq, and_true] at e
        obtain ⟨rfl, rfl⟩ := e
        obtain ⟨b1, b2⟩ := HZ.out _ _ hx
        obtain ⟨b3, b4⟩ := HZ.out _ _ hy
        clear hx hy
        have hnn : (0 : Int) < (n : Int) := by omega
        have i1 : 0 ≤ (p : Int) % (n : Int) := Int.emod_nonneg _ (by omega)
        have i2 : (p : Int) % (n : Int) < (n : Int) := Int.emod_lt_of_pos _ hnn
        have i3 : 0 ≤ ((p : Int) * 7 + 3) % (n : Int) := Int.emod_nonneg _ (by omega)
        have i4 : ((p : Int) * 7 + 3) % (n : Int) < (n : Int) := Int.emod_lt_of_pos _ hnn
        have j0 : 0 ≤ (p : Int) / (n : Int) := Int.ediv_nonneg (by omega) (by omega)
        have j1 : (p : Int) / (n : Int) ≤ p := Int.ediv_le_self _ (by omega)
        have hkz : (k == 0) = false := by simp; omega
        obtain ⟨Z, hxor, z0, z1⟩ : ∃ Z : Int, bits .xor .i64 (x * 131 + y * 1117 + (p : Int) * 29 + (p : Int) / (n : Int) * 53) ((x * 131 + y * 1117 + (p : Int) * 29 + (p : Int) / (n : Int) * 53) / 64) = Z ∧ 0 ≤ Z ∧ Z ≤ 4611686018427387904 := by
          refine ⟨_, xor_i64 _ _ (by omega) (by omega) (by omega) (by omega), by omega, ?_⟩
          have hlt : (x * 131 + y * 1117 + (p : Int) * 29 + (p : Int) / (n : Int) * 53).toNat ^^^ ((x * 131 + y * 1117 + (p : Int) * 29 + (p : Int) / (n : Int) * 53) / 64).toNat < 2 ^ 62 := Nat.xor_lt_two_pow (by omega) (by omega)
          omega
        have HPk : Hid (PickRes k (Z % k)) := Lib.hid ⟨Int.emod_nonneg _ (by omega), fun _ => Int.emod_lt_of_pos _ (by omega)⟩
        go_enter Tryz.func40, Tryz.ntmps40
        go_wp2
        go_quiet (fail)
        go_wp2
        go_ret
        exact ⟨_, rfl, HPk.out, HA.out.grew (grew_drewN _ _), HC.out.trans (Chg.of_below (F := fun b => b = g) (grew_drewN _ _)) (fun _ _ h => h) (fun _ _ h => h)⟩

/-- Block `g` is a reader of a code, at most at place `P`. -/
def RdLe (w : World) (g P : Nat) : Prop := ∃ p, p ≤ P ∧ RdAt w g p
theorem RdLe.lt {w : World} {g P : Nat} (h : RdLe w g P) : g < w.heap.size := by
  obtain ⟨p, _, h⟩ := h
  exact h.lt
theorem RdLe.chg {w w' : World} {g P : Nat} {F : Nat → Prop} (h : RdLe w g P) (hc : Chg F w w') (hF : ∀ b, b ≤ g → ¬ F b) : RdLe w' g P := by
  obtain ⟨p, hp, h⟩ := h
  exact ⟨p, hp, h.chg hc hF⟩
theorem RdLe.grew {w w' : World} {g P : Nat} (h : RdLe w g P) (hb : Grew w w') : RdLe w' g P := h.chg (F := fun _ => False) (Chg.of_below hb) (fun _ _ hf => hf)
theorem RdLe.mono {w : World} {g P Q : Nat} (h : RdLe w g P) (hq : P ≤ Q) : RdLe w g Q := by
  obtain ⟨p, hp, h⟩ := h
  exact ⟨p, Nat.le_trans hp hq, h⟩

/-- Nothing old has changed but block `g`. -/
abbrev ChgG (g : Nat) (w w' : World) : Prop := Chg (fun b => b = g) w w'
theorem ChgG.trans {g : Nat} {a b c : World} (h : ChgG g a b) (k : ChgG g b c) : ChgG g a c := Chg.trans h k (fun _ _ h => h) (fun _ _ h => h)
theorem ChgG.grew {g : Nat} {a b c : World} (h : ChgG g a b) (k : Grew b c) : ChgG g a c := ChgG.trans h (Chg.of_below k)
theorem ChgG.refl (g : Nat) (a : World) : ChgG g a a := Chg.refl _ _
theorem ChgG.of_grew {g : Nat} {a b : World} (k : Grew a b) : ChgG g a b := Chg.of_below k

theorem pickLe (g P : Nat) (k : Int) (w : World) (h : RdLe w g P) (hp : P ≤ 1099511627776) (hk : k ≤ 1099511627776) :
    Calls Tryz.prog 40 #[.pointer (some ⟨g, 0, none⟩), .int .i64 k] w fun e w' => ∃ v : Int, e = .returned (.int .i64 v) ∧ PickRes k v ∧ RdLe w' g (P + 1) ∧ ChgG g w w' := by
  obtain ⟨p, hpP, h⟩ := h
  refine (pick g p k w h (by omega) hk).mono ?_
  rintro e w' ⟨v, rfl, h1, h2, h3⟩
  exact ⟨v, rfl, h1, ⟨p + 1, by omega, h2⟩, h3⟩

/-- One of the numbers of a literal, its place picked. -/
theorem lit_cell {w w' : World} {F : Nat → Prop} (zs : List Int) {e : TypeId} {v : Int} (h : Chg F (w.alloc (.cells (ints .i64 zs).toArray e)) w') (hF : ¬ F w.heap.size) (h0 : 0 ≤ v) (h1 : v < zs.length) :
    ∃ y ∈ zs, w'.cell? ⟨w.heap.size, v.toNat, none⟩ = some (.int .i64 y) := by
  have hlt : v.toNat < zs.length := by omega
  refine ⟨zs[v.toNat], List.getElem_mem hlt, ?_⟩
  have hb : w'.heap[w.heap.size]? = some (.cells (ints .i64 zs).toArray e) := by
    rw [h.block _ (by simp) hF]
    exact heap_alloc_new w _
  rw [cell_of_row w' _ _ _ _ _ hb]
  simp [ints, hlt]

theorem l20Open (a : Option Addr) (n cap : Nat) (zs : List Int) (w : World) (hr : Rd w a n 1 (ints .u8 zs)) (hz : Bs zs) (hc : n ≤ cap ∧ cap ≤ maxLen) :
    Calls Tryz.prog 25 #[.slice a n cap] w fun e w' => e = .returned (.pointer (some ⟨w.heap.size, 0, none⟩)) ∧ RdLe w' w.heap.size 0 ∧ Grew w w' := by
  obtain ⟨hc1, hc2⟩ := hc
  unfold maxLen at hc2
  have hold : ∀ x, a = some x → 1 ≤ n → x.block < w.heap.size := by
    intro x e hn
    obtain ⟨b, off, y, e2, _, hcell⟩ := hr.at1 (i := 0) (by omega)
    rw [e] at e2
    obtain rfl := Option.some.inj e2
    exact World.block_lt_of_cell? w _ hcell
  by_cases h : 2000 < n
  · obtain ⟨b, off, y, rfl, _, hcell⟩ := hr.at1 (i := 0) (by omega)
    have hd : (2000 : Int) < (n : Int) := by omega
    have hsub := hr.sub 0 2000 (by omega)
    simp only [Nat.add_zero, List.drop_zero] at hsub
    have HS := Lib.hid hsub; clear hsub
    have HO := Lib.hid hold; clear hold
    have HZ := Lib.hid (bs_take hz 2000); clear hz
    clear hr hcell
    go_enter Tryz.func25, Tryz.ntmps25
    go_wp2
    go_ret
    refine ⟨rfl, ⟨0, Nat.le_refl _, _, _, _, _, heap_alloc_new w _, HS.out.grew ((Below.refl _ _).alloc (Nat.le_refl _) _), HZ.out, Nat.le_refl _, fun x e _ => HO.out x e (by omega)⟩, (Below.refl _ _).alloc (Nat.le_refl _) _⟩
  · have hd : ¬ (2000 : Int) < (n : Int) := by omega
    have HO := Lib.hid hold; clear hold
    have HZ := Lib.hid hz; clear hz
    have HR := Lib.hid hr; clear hr
    go_enter Tryz.func25, Tryz.ntmps25
    go_wp2
    go_ret
    refine ⟨rfl, ⟨0, Nat.le_refl _, _, _, _, _, heap_alloc_new w _, HR.out.grew ((Below.refl _ _).alloc (Nat.le_refl _) _), HZ.out, by omega, fun x e _ => HO.out x e (by omega)⟩, (Below.refl _ _).alloc (Nat.le_refl _) _⟩

/-- What was returned: a number with a property; of the world behind: R. -/
def RetI (p : Int → Prop) (R : World → Prop) (e : Ending) (w' : World) : Prop := ∃ v : Int, e = .returned (.int .i64 v) ∧ p v ∧ R w'
/-- Go's numbers of the program. -/
def N16 (v : Int) : Prop := -32768 ≤ v ∧ v ≤ 32767

/-- A bool was returned; of the world behind: R. -/
def RetB (R : World → Prop) (e : Ending) (w' : World) : Prop := ∃ b : Bool, e = .returned (.bool b) ∧ R w'

theorem odd (g P : Nat) (k : Int) (w : World) (h : RdLe w g P) (hp : P ≤ 1099511627776) (hk : -1099511627776 ≤ k ∧ k ≤ 1099511627776) :
    Calls Tryz.prog 55 #[.pointer (some ⟨g, 0, none⟩), .int .i64 k] w (RetB fun w' => RdLe w' g (P + 1) ∧ ChgG g w w') := by
  obtain ⟨hk1, hk2⟩ := hk
  by_cases h9 : k < 9000
  · have hd : decide (k < 9000) = true := by simpa using h9
    go_enter Tryz.func55, Tryz.ntmps55
    go_wp2_with fail
    refine (pickLe g P k w h hp hk2).mono ?_
    rintro e w' ⟨v, rfl, h1, h2, h3⟩
    have H2 := Lib.hid h2; clear h2
    have H3 := Lib.hid h3; clear h3
    go_wp2
    go_ret
    exact ⟨_, rfl, H2.out, H3.out⟩
  · have hd : decide (k < 9000) = false := by simpa using h9
    have H2 := Lib.hid h; clear h
    go_enter Tryz.func55, Tryz.ntmps55
    go_wp2
    go_ret
    exact ⟨_, rfl, H2.out.mono (by omega), ChgG.refl _ _⟩

theorem l20Num (g P : Nat) (w : World) (h : RdLe w g P) (hp : P + 3 ≤ 1099511627776) :
    Calls Tryz.prog 110 #[.pointer (some ⟨g, 0, none⟩)] w (RetI N16 fun w' => RdLe w' g (P + 3) ∧ ChgG g w w') := by
  have HP := Lib.hid h; clear h
  go_enter Tryz.func110, Tryz.ntmps110
  go_wp2_with fail
  refine (pickLe g P _ w HP.out (by omega) (by omega)).mono ?_
  rintro e w1 ⟨v, rfl, ⟨h0, h1⟩, h2, h3⟩
  have h1 := h1 (by omega)
  have HP1 := Lib.hid h2; clear h2
  have HC1 := Lib.hid h3; clear h3
  have hv : v = 0 ∨ v = 1 ∨ v = 2 ∨ v = 3 := by omega
  rcases hv with rfl | rfl | rfl | rfl
  · go_wp2_with fail
    refine (pickLe g (P + 1) _ _ (HP1.out.grew ((Below.refl _ _).alloc (Nat.le_refl _) _)) (by omega) (by omega)).mono ?_
    rintro e w2 ⟨u, rfl, ⟨u0, u1⟩, h2, h3⟩
    have u1 := u1 (by omega)
    obtain ⟨y, hy, hcell⟩ := lit_cell [0, 1, -1, 2, 3, -2, 10, -10, 100] h3 (by have := HP1.out.lt; omega) u0 u1
    have HP2 := Lib.hid h2; clear h2
    have HC2 := Lib.hid ((HC1.out.grew ((Below.refl _ _).alloc (Nat.le_refl _) _)).trans h3); clear h3
    have HY := Lib.hid hy; clear hy
    go_wp2
    go_ret
    refine ⟨y, rfl, ?_, HP2.out.mono (by omega), HC2.out⟩
    have hy := HY.out
    simp at hy
    unfold N16
    omega
  · go_wp2_with fail
    refine (pickLe g (P + 1) _ _ HP1.out (by omega) (by omega)).mono ?_
    rintro e w2 ⟨u, rfl, ⟨u0, u1⟩, h2, h3⟩
    have u1 := u1 (by omega)
    have HP2 := Lib.hid h2; clear h2
    have HC2 := Lib.hid (HC1.out.trans h3); clear h3
    go_wp2
    go_ret
    exact ⟨_, rfl, by unfold N16; omega, HP2.out.mono (by omega), HC2.out⟩
  · go_wp2_with fail
    refine (pickLe g (P + 1) _ _ (HP1.out.grew ((Below.refl _ _).alloc (Nat.le_refl _) _)) (by omega) (by omega)).mono ?_
    rintro e w2 ⟨u, rfl, ⟨u0, u1⟩, h2, h3⟩
    have u1 := u1 (by omega)
    obtain ⟨y, hy, hcell⟩ := lit_cell [-32768, 32767, -32767, 32766, 1000, -1000, 255, 256, -255] h3 (by have := HP1.out.lt; omega) u0 u1
    have HP2 := Lib.hid h2; clear h2
    have HC2 := Lib.hid ((HC1.out.grew ((Below.refl _ _).alloc (Nat.le_refl _) _)).trans h3); clear h3
    have HY := Lib.hid hy; clear hy
    go_wp2
    go_ret
    refine ⟨y, rfl, ?_, HP2.out.mono (by omega), HC2.out⟩
    have hy := HY.out
    simp at hy
    unfold N16
    omega
  · go_wp2_with fail
    refine (pickLe g (P + 1) _ _ HP1.out (by omega) (by omega)).mono ?_
    rintro e w2 ⟨u, rfl, ⟨u0, u1⟩, h2, h3⟩
    have u1 := u1 (by omega)
    have HP2 := Lib.hid h2; clear h2
    have HC2 := Lib.hid (HC1.out.trans h3); clear h3
    go_wp2_with fail
    refine (pickLe g (P + 2) _ _ HP2.out (by omega) (by omega)).mono ?_
    rintro e w3 ⟨x, rfl, ⟨x0, x1⟩, h2, h3⟩
    have x1 := x1 (by omega)
    have HP3 := Lib.hid h2; clear h2
    have HC3 := Lib.hid (HC2.out.trans h3); clear h3
    go_wp2
    go_ret
    exact ⟨_, rfl, by unfold N16; omega, HP3.out.mono (by omega), HC3.out⟩

theorem intInfo : (Tryz.prog.info? 3).map (fun i => (i.zero, i.size, i.bytes)) = some (some (.int .i64 0), 1, 8) := by kernel_rfl
theorem intEl : El Tryz.prog 114 3 (.int .i64 0) 1 8 := El.mk' intInfo Tryz.underlying114 rfl (by omega)

end Go.Proofs.YtcdfomoglkhboaaGreatDoor
