/- A point of a state that is ok: owPoint. No condition. -/
import Derived.Test.YtpmfpgbpndobpaaGreatLw
import Derived.Test.YtpmfpgbpndobpaaGreatStepG
import Derived.Test.YtpmfpgbpndobpaaGreatEs
import Derived.Test.YtpmfpgbpndobpaaGreatDr
namespace Go.Proofs.YtpmfpgbpndobpaaGreat
open Go.RowKit
set_option linter.unusedVariables false
set_option linter.unusedSimpArgs false
attribute [local go_sem] ext_cell ext_frozen ext_lt ext_le ext_le1 lt_s2 lt_s3 lt_s4 lt_s5 lt_s6 ext_lt1 ext_lt2 ext_lt3

theorem appIntP {W : World} {B : Nat} {vs : List Int} {n : Nat} {a1 : Option Addr} {c1 : Nat} (z : Int) (h1 : W.ownsRow B 3 1 (.slice a1 n c1) n (ints .i64 vs)) (h2 : n ≤ 1000) (h3 : B ≤ W.heap.size) :
    ∃ a2 c2 W2, (Builtin.append_ #[36, 36] 36 #[.slice a1 n c1, .slice (some ⟨W.heap.size, 0, none⟩) 1 1]).run Tryz.prog (W.alloc (.cells #[.int .i64 z] 3)) = .ok (.slice a2 (n + 1) c2) W2 ∧ W2.ownsRow B 3 1 (.slice a2 (n + 1) c2) (n + 1) (ints .i64 (vs ++ [z])) ∧ Chg (fun b => (Value.slice a1 n c1).ownBlock = some b) W W2 ∧ ((Value.slice a2 (n + 1) c2).ownBlock = (Value.slice a1 n c1).ownBlock ∨ (Value.slice a2 (n + 1) c2).ownBlock = some (W.heap.size + 1)) := by
  obtain ⟨v3, w3, hrun3, o3, g3, hv⟩ := owns_append_lit (P := Tryz.prog) W intEl h1 1 [.int .i64 z] rfl (by simp [Value.oneCell']) (by omega) (by omega) h3
  obtain ⟨a2, c2, rfl⟩ := owns_slice o3
  exact ⟨a2, c2, w3, hrun3, by rw [ints_append]; exact o3, Chg.of_grownBy g3, hv⟩
/-- A row that grows, beside another one. -/
structure TwoP (wA : World) (k : Nat) (v u : Value) (m : Nat) (vs us : List Int) (wr : World) : Prop where
  gr : Grew wA wr
  row : wr.ownsRow wA.heap.size 3 1 v k (ints .i64 vs)
  oth : wr.ownsRow wA.heap.size 3 1 u m (ints .i64 us)
  ne : ∀ b, v.ownBlock = some b → u.ownBlock ≠ some b
theorem TwoP.grew {wA : World} {k m : Nat} {v u : Value} {vs us : List Int} {wr W : World} (h : TwoP wA k v u m vs us wr) (g : Grew wr W) : TwoP wA k v u m vs us W := ⟨grew_tr h.gr g, owns_grew h.row g, owns_grew h.oth g, h.ne⟩
theorem TwoP.app {wA : World} {k m : Nat} {a1 : Option Addr} {c1 : Nat} {u : Value} {vs us : List Int} {wr : World} (h : TwoP wA k (.slice a1 k c1) u m vs us wr) (hk : k ≤ 1000) (z : Int) :
    ∃ a2 c2 W2, (Builtin.append_ #[36, 36] 36 #[.slice a1 k c1, .slice (some ⟨wr.heap.size, 0, none⟩) 1 1]).run Tryz.prog (wr.alloc (.cells #[.int .i64 z] 3)) = .ok (.slice a2 (k + 1) c2) W2 ∧ TwoP wA (k + 1) (.slice a2 (k + 1) c2) u m (vs ++ [z]) us W2 ∧ Chg (fun b => (Value.slice a1 k c1).ownBlock = some b) wr W2 ∧ (∀ b, (Value.slice a1 k c1).ownBlock = some b → wA.heap.size ≤ b) := by
  obtain ⟨a2, c2, W2, hr, ho, hc, hv⟩ := appIntP z h.row hk h.gr.size
  have hge : ∀ b, (Value.slice a1 k c1).ownBlock = some b → wA.heap.size ≤ b := fun b hb => (h.row.lt b hb).1
  refine ⟨a2, c2, W2, hr, ⟨Below.trans h.gr (hc.belowB h.gr.size hge), ho, owns_chg h.oth hc (fun b hb e => h.ne b e hb), fun b hb e => ?_⟩, hc, hge⟩
  rcases hv with h1 | h1
  · rw [h1] at hb
    exact h.ne b hb e
  · rw [h1] at hb
    have := (h.oth.lt b e).2
    simp only [Option.some.injEq] at hb
    omega
theorem chg_cellP {F : Nat → Prop} {w w' : World} {p : Addr} {v : Value} (hc : Chg F w w') (h : w.cell? p = some v) (hn : ¬ F p.block) : w'.cell? p = some v :=
  (World.cell?_of_block (w := w) (w' := w') (a := p) (hc.block p.block (World.block_lt_of_cell? _ _ h) hn)).trans h
def PtOk (xs : List Itv) (vs : List Int) : Prop := ∀ (k : Nat) (x : Itv) (v : Int), xs[k]? = some x → vs[k]? = some v → x.lo ≤ v ∧ v ≤ x.hi
theorem PtOk.snoc {xs : List Itv} {vs : List Int} {k : Nat} {x : Itv} {z : Int} (h : PtOk xs vs) (hk : vs.length = k) (hx : xs[k]? = some x) (h1 : x.lo ≤ z) (h2 : z ≤ x.hi) : PtOk xs (vs ++ [z]) := by
  intro j y v hy hv
  rcases Nat.lt_trichotomy j vs.length with hj | hj | hj
  · rw [List.getElem?_append_left hj] at hv
    exact h j y v hy hv
  · subst hj
    rw [List.getElem?_append_right (Nat.le_refl _), Nat.sub_self] at hv
    cases hv
    rw [hk, hx] at hy
    cases hy
    exact ⟨h1, h2⟩
  · rw [List.getElem?_eq_none (by simp; omega)] at hv
    cases hv
/-- Variables and cells of a state came back, each in memory of its own. -/
def RetPq (xs : List Itv) (lo hi : Int) (w : World) (e : Ending) (w' : World) : Prop :=
  ∃ va vc ca cc vs cs, e = .returned (.tuple #[.slice va 4 vc, .slice ca 4 cc]) ∧ w'.ownsRow w.heap.size 3 1 (.slice va 4 vc) 4 (ints .i64 vs) ∧ w'.ownsRow w.heap.size 3 1 (.slice ca 4 cc) 4 (ints .i64 cs) ∧
    vs.length = 4 ∧ cs.length = 4 ∧ PtOk xs vs ∧ (∀ v, v ∈ cs → lo ≤ v ∧ v ≤ hi) ∧ (∀ b, (Value.slice va 4 vc).ownBlock = some b → (Value.slice ca 4 cc).ownBlock ≠ some b) ∧ Grew w w'
set_option maxRecDepth 100000 in
set_option maxHeartbeats 4000000 in
theorem owPoint (xa : Option Addr) (xc : Nat) (xs : List Itv) (lo hi n : Int) (la : Option Addr) (lc : Nat) (zs : List Int) (w : World) (hx : RdL EItv 2 w xa 4 xs) (hs : stOkB true xs lo hi = true) (hn : N16 n) (hl : Rd w la 12 1 (ints .i64 zs)) (hz : Ns zs) :
    Calls Tryz.prog 13 #[.agg #[.bool true, .slice xa 4 xc, .int .i64 lo, .int .i64 hi], .int .i64 n, .slice la 12 lc] w (RetPq xs lo hi w) := by
  obtain ⟨wA, hwA⟩ : ∃ W, w.alloc (.cells #[.bool true, .slice xa 4 xc, .int .i64 lo, .int .i64 hi] 33) = W := ⟨_, rfl⟩
  obtain ⟨b3, hb3⟩ : ∃ b, w.heap.size = b := ⟨_, rfl⟩
  have hsA : b3 + 1 = wA.heap.size := by rw [← hwA, ← hb3]; simp
  have SA := Lib.hid (show Blk wA b3 33 #[.bool true, .slice xa 4 xc, .int .i64 lo, .int .i64 hi] from by rw [← hwA, ← hb3]; exact Blk.new _ _ _)
  have gA : Grew w wA := by rw [← hwA]; exact grew_al (Below.refl _ _) _
  have HXA := Lib.hid (hx.grew staysItv gA)
  have HLA := Lib.hid (hl.grew gA)
  have GA := Lib.hid gA
  have HOK := Lib.hid hs
  have hbx : ∀ x, xa = some x → x.block < b3 := fun x hx1 => by have := RdL.lt (C := 1) hx (by omega) hx1; omega
  have hbl : ∀ x, la = some x → x.block < b3 := fun x hx1 => by
    obtain ⟨b', off', x0, e0, _, x1⟩ := hl.at1 (show 0 < 12 by omega)
    rw [hx1] at e0
    cases e0
    have := World.block_lt_of_cell? _ _ x1
    simp only at this ⊢
    omega
  have HBX := Lib.hid hbx
  have HBL := Lib.hid hbl
  have HZ := Lib.hid hz
  have HB3 := Lib.hid hb3
  have HWA := Lib.hid hwA
  have HS1 := Lib.hid hsA
  have hb3A : b3 < wA.heap.size := by omega
  have HS0 := Lib.hid (show w.heap.size ≤ wA.heap.size from by omega)
  obtain ⟨hn1, hn2⟩ := hn
  clear hx hs hl hz hb3 hwA hsA gA hbx hbl
  go_enter Tryz.func13, Tryz.ntmps13
  go_wp2
  simp only [HWA.out, HB3.out, HS1.out]
  refine wp_letH ?_
  intro E hE
  have HT0 : Hid (TwoP wA 0 (.slice (some ⟨wA.heap.size, 0, none⟩) 0 0) (.slice (some ⟨wA.heap.size + 1, 0, none⟩) 0 0) 0 [] [] E) := Lib.hid (by
    rw [hE]
    refine ⟨grew_al (grew_al (Below.refl _ _) _) _, (World.ownsRow_lit wA #[] 0 (Nat.le_refl _) (Nat.zero_le _) rfl).alloc _, ?_, fun b hb e => ?_⟩
    · simpa [ints] using World.ownsRow_lit (wA.alloc (.cells #[] 3)) (e := 3) (size := 1) #[] 0 (base := wA.heap.size) (by simp) (Nat.zero_le _) rfl
    · simp only [Value.ownBlock, Option.some.injEq] at hb e
      omega)
  clear hE
  go_loopw [8, 10] (fun v i wr => ∃ (k : Nat) (a1 : Option Addr) (c1 : Nat) (vs : List Int), k ≤ 4 ∧ i = .int .i64 k ∧ v = .slice a1 k c1 ∧ vs.length = k ∧ PtOk xs vs ∧ TwoP wA k (.slice a1 k c1) (.slice (some ⟨wA.heap.size + 1, 0, none⟩) 0 0) 0 vs [] wr) (fun _ i _ => 4 - (intOf i).toNat)
  case atStart => exact ⟨0, _, _, [], Nat.zero_le _, rfl, rfl, rfl, fun k x v _ h => by simp at h, HT0.out⟩
  case round =>
    clear HT0
    obtain ⟨k, a1, c1, vs, hk, rfl, rfl, hvl, hpt, hT⟩ := hrel
    have HT := Lib.hid hT
    have HVL := Lib.hid hvl
    have HPT := Lib.hid hpt
    clear hvl hpt hT
    by_cases hlt : k < 4
    · obtain ⟨xb, xoff, xl, xh, rfl, hxk, d0, d1, db⟩ := rdItv_at (HXA.out.grew staysItv HT.out.gr) hlt
      obtain ⟨lb, loff, lz, rfl, hzk, e0⟩ := (HLA.out.grew HT.out.gr).at1 (show k < 12 by omega)
      have hxb := HBX.out _ rfl
      have hlb := HBL.out _ rfl
      have hlz := HZ.out k lz hzk
      simp only at hxb hlb
      have hik := nthI_ok (k := (k : Int)) HOK.out (by simp [varB]; omega)
      have hie : nthI xs (k : Int) = ⟨xl, xh⟩ := by simp [nthI, List.getD_eq_getElem?_getD, hxk]
      rw [hie] at hik
      have hlz1 := hlz.1
      have hlz2 := hlz.2
      have HXK := Lib.hid hxk
      have HPK := Lib.hid (fun W => owPick xl xh (lz + n) hik (by omega) (by omega) W)
      have hbx := SA.out.grew HT.out.gr
      have q0 := hbx.cell 0
      have q1 := hbx.cell 1
      have q2 := hbx.cell 2
      have q3 := hbx.cell 3
      simp only [List.getElem?_toArray, List.getElem?_cons_zero, List.getElem?_cons_succ] at q0 q1 q2 q3
      have HSG := Lib.hid (fun W (g : Grew wr W) => (⟨(g.cell (p := ⟨b3, 1, none⟩) (World.block_lt_of_cell? _ _ q1)).trans q1, (g.cell (p := ⟨xb, xoff + k * 2, none⟩) (World.block_lt_of_cell? _ _ d0)).trans d0, (g.cell (p := ⟨xb, xoff + k * 2 + 1, none⟩) (World.block_lt_of_cell? _ _ d1)).trans d1, (g.cell (p := ⟨lb, loff + k, none⟩) (World.block_lt_of_cell? _ _ e0)).trans e0⟩ :
        W.cell? ⟨b3, 1, none⟩ = some (.slice (some ⟨xb, xoff, none⟩) 4 xc) ∧ W.cell? ⟨xb, xoff + k * 2, none⟩ = some (.int .i64 xl) ∧ W.cell? ⟨xb, xoff + k * 2 + 1, none⟩ = some (.int .i64 xh) ∧ W.cell? ⟨lb, loff + k, none⟩ = some (.int .i64 lz)))
      have HWR : Hid (IntKind.i64.wrap (lz + n) = lz + n) := Lib.hid (wrapIn (by omega) (by omega))
      have hkn : (k : Int) < 4 := by omega
      have hkn2 : (k : Int) < 12 := by omega
      clear hbx q0 q2 q3 hxk hzk hik hie hlz
      go_upto_region 6 with fail
      go_region_held3 (fun W => W.cell? ⟨b3, 1, none⟩ = some (.slice (some ⟨xb, xoff, none⟩) 4 xc) ∧ W.cell? ⟨xb, xoff + k * 2, none⟩ = some (.int .i64 xl) ∧ W.cell? ⟨xb, xoff + k * 2 + 1, none⟩ = some (.int .i64 xh) ∧ W.cell? ⟨lb, loff + k, none⟩ = some (.int .i64 lz)) (first | with_reducible assumption | with_reducible exact HSG.out _ (gr))
        (first
        | ((try rw [HWR.out]); refine (HPK.out _).mono ?_; rintro e wh ⟨⟨z, rfl, hz1, hz2⟩, ga⟩; have hgh : Grew wr wh := grew_tr (gr) ga; have hs8 := HSG.out _ hgh; clear ga
           obtain ⟨a4, c4, w4, hr4, hT4, hc4, hge4⟩ := (HT.out.grew hgh).app (by omega) z
           have R4 := Lib.hid hr4
           have HT4 := Lib.hid hT4
           have hs9 : w4.cell? ⟨b3, 1, none⟩ = some (.slice (some ⟨xb, xoff, none⟩) 4 xc) ∧ w4.cell? ⟨xb, xoff + k * 2, none⟩ = some (.int .i64 xl) ∧ w4.cell? ⟨xb, xoff + k * 2 + 1, none⟩ = some (.int .i64 xh) ∧ w4.cell? ⟨lb, loff + k, none⟩ = some (.int .i64 lz) := ⟨chg_cellP hc4 hs8.1 (fun e => by have := hge4 _ e; (try simp only at this); omega), chg_cellP hc4 hs8.2.1 (fun e => by have := hge4 _ e; (try simp only at this); omega), chg_cellP hc4 hs8.2.2.1 (fun e => by have := hge4 _ e; (try simp only at this); omega), chg_cellP hc4 hs8.2.2.2 (fun e => by have := hge4 _ e; (try simp only at this); omega)⟩
           clear hr4 hT4 hc4 hge4)
        | (refine heldAppend rfl _ _ rfl rfl rfl rfl R4.out ?_))
      have HP4 := Lib.hid (PtOk.snoc HPT.out HVL.out HXK.out hz1 hz2)
      clear hs8 hs9 hgh q1 d0 d1 e0 R4 HSG HPK hz1 hz2
      go_wp2
      go_roundw
      case rel => exact ⟨k + 1, _, _, _, by omega, by go_num, rfl, by rw [List.length_append, HVL.out]; rfl, HP4.out, HT4.out⟩
      case measure => simp [intOf]; omega
    · obtain rfl : k = 4 := by omega
      have HT4 : Hid (TwoP wA 0 (.slice (some ⟨wA.heap.size + 1, 0, none⟩) 0 0) (.slice a1 4 c1) 4 [] vs wr) := Lib.hid ⟨HT.out.gr, HT.out.oth, HT.out.row, fun b hb e => HT.out.ne b e hb⟩
      clear HT
      go_wp2
      go_loopw [9, 11] (fun v i wr => ∃ (k : Nat) (a2 : Option Addr) (c2 : Nat) (cs : List Int), k ≤ 4 ∧ i = .int .i64 k ∧ v = .slice a2 k c2 ∧ cs.length = k ∧ (∀ v, v ∈ cs → lo ≤ v ∧ v ≤ hi) ∧ TwoP wA k (.slice a2 k c2) (.slice a1 4 c1) 4 cs vs wr) (fun _ i _ => 4 - (intOf i).toNat)
      case atStart => exact ⟨0, _, _, [], Nat.zero_le _, rfl, rfl, rfl, (fun v h => by cases h), HT4.out⟩
      case round =>
        clear HT4
        obtain ⟨k, a2, c2, cs, hk, rfl, rfl, hvl, hin, hT⟩ := hrel
        have HT := Lib.hid hT
        have HCL := Lib.hid hvl
        have HIN := Lib.hid hin
        clear hvl hin hT
        by_cases hlt : k < 4
        · obtain ⟨lb, loff, lz, rfl, hzk, e0⟩ := (HLA.out.grew HT.out.gr).at1 (show k + 4 < 12 by omega)
          obtain ⟨m, hm⟩ : ∃ m : Nat, k + 4 = m := ⟨_, rfl⟩
          rw [hm] at e0 hzk
          have hwk : IntKind.i64.wrap ((k : Int) + 4) = (m : Int) := by rw [show (k : Int) + 4 = (m : Int) from by omega]; exact wrapIn
          have hlb := HBL.out _ rfl
          have hlz := HZ.out m lz hzk
          simp only at hlb
          have hik := (stOk_parts HOK.out).2.2
          have hlz1 := hlz.1
          have hlz2 := hlz.2
          have HPK := Lib.hid (fun W => owPick lo hi (lz - n) hik (by omega) (by omega) W)
          have hbx := SA.out.grew HT.out.gr
          have q2 := hbx.cell 2
          have q3 := hbx.cell 3
          simp only [List.getElem?_toArray, List.getElem?_cons_zero, List.getElem?_cons_succ] at q2 q3
          have HSG := Lib.hid (fun W (g : Grew wr W) => (⟨(g.cell (p := ⟨b3, 2, none⟩) (World.block_lt_of_cell? _ _ q2)).trans q2, (g.cell (p := ⟨b3, 3, none⟩) (World.block_lt_of_cell? _ _ q3)).trans q3, (g.cell (p := ⟨lb, loff + m, none⟩) (World.block_lt_of_cell? _ _ e0)).trans e0⟩ :
            W.cell? ⟨b3, 2, none⟩ = some (.int .i64 lo) ∧ W.cell? ⟨b3, 3, none⟩ = some (.int .i64 hi) ∧ W.cell? ⟨lb, loff + m, none⟩ = some (.int .i64 lz)))
          have HWR : Hid (IntKind.i64.wrap (lz - n) = lz - n) := Lib.hid (wrapIn (by omega) (by omega))
          have hkn : (k : Int) < 4 := by omega
          have hkn2 : (m : Int) < 12 := by omega
          have hkn3 : ¬ (12 : Int) ≤ (m : Int) := by omega
          have HM := Lib.hid hm
          clear hm
          clear hbx hzk hik hlz
          go_upto_region 10 with fail
          go_region_held3 (fun W => W.cell? ⟨b3, 2, none⟩ = some (.int .i64 lo) ∧ W.cell? ⟨b3, 3, none⟩ = some (.int .i64 hi) ∧ W.cell? ⟨lb, loff + m, none⟩ = some (.int .i64 lz)) (first | with_reducible assumption | with_reducible exact HSG.out _ (gr))
            (first
            | ((try rw [HWR.out]); refine (HPK.out _).mono ?_; rintro e wh ⟨⟨z, rfl, hz1, hz2⟩, ga⟩; have hgh : Grew wr wh := grew_tr (gr) ga; have hs8 := HSG.out _ hgh; clear ga
               obtain ⟨a4, c4, w4, hr4, hT4, hc4, hge4⟩ := (HT.out.grew hgh).app (by omega) z
               have R4 := Lib.hid hr4
               have HT4 := Lib.hid hT4
               have hs9 : w4.cell? ⟨b3, 2, none⟩ = some (.int .i64 lo) ∧ w4.cell? ⟨b3, 3, none⟩ = some (.int .i64 hi) ∧ w4.cell? ⟨lb, loff + m, none⟩ = some (.int .i64 lz) := ⟨chg_cellP hc4 hs8.1 (fun e => by have := hge4 _ e; (try simp only at this); omega), chg_cellP hc4 hs8.2.1 (fun e => by have := hge4 _ e; (try simp only at this); omega), chg_cellP hc4 hs8.2.2 (fun e => by have := hge4 _ e; (try simp only at this); omega)⟩
               clear hr4 hT4 hc4 hge4)
            | (refine heldAppend rfl _ _ rfl rfl rfl rfl R4.out ?_))
          have HP4 : Hid (∀ v, v ∈ cs ++ [z] → lo ≤ v ∧ v ≤ hi) := Lib.hid (fun v hv => by
            rcases List.mem_append.1 hv with h | h
            · exact HIN.out v h
            · rw [List.mem_singleton.1 h]; exact ⟨hz1, hz2⟩)
          clear hs8 hs9 hgh q2 q3 e0 R4 HSG HPK hz1 hz2
          go_wp2
          go_roundw
          case rel =>
            refine ⟨_, _, _, _, _, _, _, _, _, _, _, _, _, _, _, _, _, _, _, ⟨k + 1, _, _, _, by omega, ?_, rfl, by rw [List.length_append, HCL.out]; rfl, HP4.out, HT4.out⟩, rfl⟩
            go_num
          case measure => simp [intOf]; omega
        · obtain rfl : k = 4 := by omega
          go_wp2
          go_ret2
          exact ⟨a1, c1, a2, c2, vs, cs, rfl, owns_mono HT.out.oth HS0.out, owns_mono HT.out.row HS0.out, HVL.out, HCL.out, HPT.out, HIN.out, fun b hb e => HT.out.ne b e hb, grew_tr GA.out HT.out.gr⟩
end Go.Proofs.YtpmfpgbpndobpaaGreat
