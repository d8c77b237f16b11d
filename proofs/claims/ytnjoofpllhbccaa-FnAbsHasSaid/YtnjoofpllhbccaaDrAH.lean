/- Lemmas and walks of this proof, some texts one behind the other. No condition. -/
import Derived.Test.YtnjoofpllhbccaaDrWi
import Derived.Test.YtnjoofpllhbccaaDrIn2
import Derived.Test.YtnjoofpllhbccaaStI
set_option linter.unusedSimpArgs false
set_option linter.unusedVariables false
/- The draw of variables and cells of a state. No condition. -/
namespace Go.Proofs.Ytnjoofpllhbccaa
open Go.RowKit
set_option linter.unusedVariables false
set_option linter.unusedSimpArgs false
attribute [local go_sem] dg_cell dg_frozen dg_lt dg_lt1 dg_lt2 dg_ne dg_ne1 dg_ne2 dg_new dg_wen lt_s2 lt_s3 lt_s4 lt_s5 lt_s6

/-- One number is put behind a row. -/
theorem appInt {W : World} {B : Nat} {vs : List Int} {n : Nat} {a1 : Option Addr} {c1 : Nat} (z : Int) (h1 : W.ownsRow B 3 1 (.slice a1 n c1) n (ints .i64 vs)) (h2 : n ≤ 1048580) (h3 : B ≤ W.heap.size) :
    ∃ a2 c2 W2, (Builtin.append_ #[27, 27] 27 #[.slice a1 n c1, .slice (some ⟨W.heap.size, 0, none⟩) 1 1]).run Try.prog (W.alloc (.cells #[.int .i64 z] 3)) = .ok (.slice a2 (n + 1) c2) W2 ∧ W2.ownsRow B 3 1 (.slice a2 (n + 1) c2) (n + 1) (ints .i64 (vs ++ [z])) ∧ Chg (fun b => (Value.slice a1 n c1).ownBlock = some b) W W2 ∧ ((Value.slice a2 (n + 1) c2).ownBlock = (Value.slice a1 n c1).ownBlock ∨ (Value.slice a2 (n + 1) c2).ownBlock = some (W.heap.size + 1)) := by
  obtain ⟨v3, w3, hrun3, o3, g3, hv⟩ := owns_append_lit (P := Try.prog) W intEl h1 1 [.int .i64 z] rfl (by simp [Value.oneCell']) (by omega) (by omega) h3
  obtain ⟨a2, c2, rfl⟩ := owns_slice o3
  exact ⟨a2, c2, w3, hrun3, by rw [ints_append]; exact o3, Chg.of_grownBy g3, hv⟩
/-- A row that grows while numbers are drawn, beside another one. -/
structure Two (g : Nat) (wA : World) (P k : Nat) (v u : Value) (m : Nat) (wr : World) : Prop where
  ch : ChgG g wA wr
  rd : RdLe wr g P
  row : ∃ vs : List Int, wr.ownsRow wA.heap.size 3 1 v k (ints .i64 vs)
  oth : ∃ us : List Int, wr.ownsRow wA.heap.size 3 1 u m (ints .i64 us)
  ne : ∀ b, v.ownBlock = some b → u.ownBlock ≠ some b
theorem Two.cg {g P Q k m : Nat} {wA wr W : World} {v u : Value} (h : Two g wA P k v u m wr) (c : ChgG g wr W) (r : RdLe W g Q) (hg : g < wA.heap.size) : Two g wA Q k v u m W :=
  ⟨h.ch.trans c, r, by obtain ⟨vs, h⟩ := h.row; exact ⟨vs, owns_chg h c (fun b hb e => by have := (h.lt b hb).1; omega)⟩, by obtain ⟨vs, h⟩ := h.oth; exact ⟨vs, owns_chg h c (fun b hb e => by have := (h.lt b hb).1; omega)⟩, h.ne⟩
theorem Two.app {g P k m c1 : Nat} {wA W : World} {a1 : Option Addr} {u : Value} (h : Two g wA P k (.slice a1 k c1) u m W) (hg : g < wA.heap.size) (hk : k ≤ 1000) (z : Int) :
    ∃ a2 c2 W2, (Builtin.append_ #[27, 27] 27 #[.slice a1 k c1, .slice (some ⟨W.heap.size, 0, none⟩) 1 1]).run Try.prog (W.alloc (.cells #[.int .i64 z] 3)) = .ok (.slice a2 (k + 1) c2) W2 ∧ Two g wA P (k + 1) (.slice a2 (k + 1) c2) u m W2 := by
  obtain ⟨hch, hrd, ⟨vs, hrow⟩, ⟨us, hoth⟩, hne⟩ := h
  obtain ⟨a2, c2, W2, h1, h2, h3, h4⟩ := appInt z hrow (by omega) hch.size
  refine ⟨a2, c2, W2, h1, chg_own hch h3 (fun b hb => (hrow.lt b hb).1), rd_own hrd h3 (fun b hb => (hrow.lt b hb).1) hg, ⟨_, h2⟩, ⟨us, owns_chg hoth h3 (fun b hb e => hne b e hb)⟩, fun b hb e => ?_⟩
  rcases h4 with h4 | h4
  · rw [h4] at hb
    exact hne b hb e
  · rw [h4, Option.some.injEq] at hb
    have := (hoth.lt b e).2
    omega
theorem RowB.rd2 {t : Nat} {W : World} (h : RowB t W) {n : Nat} (hn : n ≤ 4) : ∃ xs : List Itv, xs.length = n ∧ Rd W (some ⟨t, 0, none⟩) n 2 (xs.flatMap Itv.cells) := by
  obtain ⟨arr, h, h4⟩ := h
  have hsz : 8 ≤ arr.size := by
    obtain ⟨y, hy⟩ := h4 7 (by omega)
    have := (Array.getElem?_eq_some_iff.1 hy).1
    omega
  obtain ⟨xs, hi1, hi2⟩ := itv_of_ints n (arr.toList.take (n * 2)) (by rw [List.length_take, Array.length_toList]; omega) (fun i hi => by
    obtain ⟨x, hx⟩ := h4 i (by omega)
    exact ⟨x, by rw [List.getElem?_take, if_pos hi]; simpa using hx⟩)
  exact ⟨xs, hi1, by rw [hi2, List.length_take, Array.length_toList]; omega, .inr ⟨t, 0, rfl, fun j u hu => by
    rw [Nat.zero_add]
    rw [hi2, List.getElem?_take] at hu
    split at hu
    · exact (h.cell j).trans (by simpa using hu)
    · cases hu⟩⟩
theorem rdl_itv {W : World} {a : Option Addr} {n : Nat} {xs : List Itv} (h : Rd W a n 2 (xs.flatMap Itv.cells)) (hl : xs.length = n) : RdL EItv 2 W a n xs := rdl_of_rd Itv.cells (by omega) itv_len hl h (fun x _ => rfl)
def RetPt (g P : Nat) (w : World) (e : Ending) (w' : World) : Prop := ∃ a1 c1 a2 c2, e = .returned (.tuple #[.slice a1 4 c1, .slice a2 4 c2]) ∧ (∃ vs : List Int, w'.ownsRow w.heap.size 3 1 (.slice a1 4 c1) 4 (ints .i64 vs)) ∧ (∃ cs : List Int, w'.ownsRow w.heap.size 3 1 (.slice a2 4 c2) 4 (ints .i64 cs)) ∧ (∀ b, (Value.slice a1 4 c1).ownBlock = some b → (Value.slice a2 4 c2).ownBlock ≠ some b) ∧ RdLe w' g P ∧ ChgG g w w'
set_option maxRecDepth 100000 in
set_option maxHeartbeats 1000000 in
theorem pointG {g P n c : Nat} {on : Bool} {a : Option Addr} {xs : List Itv} {lo hi : Int} {w : World} (h : RdLe w g P) (hp : P + 400 ≤ 1099511627776) (hx : Rd w a n 2 (xs.flatMap Itv.cells)) (hl : xs.length = n) (ha : ∀ p, a = some p → p.block ≠ g) (hok : stOkB on xs lo hi = true) :
    Calls Try.prog 80 #[.pointer (some ⟨g, 0, none⟩), .agg #[.bool on, .slice a n c, .int .i64 lo, .int .i64 hi]] w (RetPt g (P + 200) w) := by
  have lt0 := h.lt
  have HP := Lib.hid h
  obtain ⟨wA, hwA⟩ : ∃ W, w.alloc (.cells #[.bool on, .slice a n c, .int .i64 lo, .int .i64 hi] 34) = W := ⟨_, rfl⟩
  obtain ⟨b3, hb3⟩ : ∃ b, w.heap.size = b := ⟨_, rfl⟩
  have hsA : b3 + 1 = wA.heap.size := by rw [← hwA, ← hb3]; simp
  have SA := Lib.hid (show Blk wA b3 34 #[.bool on, .slice a n c, .int .i64 lo, .int .i64 hi] from by rw [← hwA, ← hb3]; exact Blk.new _ _ _)
  have gA : Grew w wA := by rw [← hwA]; exact grew_al (Below.refl _ _) _
  have HXA := Lib.hid (hx.grew gA)
  have RA := Lib.hid (h.grew gA)
  have GA := Lib.hid gA
  have lt1 : g < wA.heap.size := by omega
  have n3g : ¬ b3 = g := by omega
  have HL := Lib.hid hl
  have HNe := Lib.hid ha
  have HOk := Lib.hid hok
  have HSrc : Hid (∀ W, ChgG g wA W → Blk W b3 34 #[.bool on, .slice a n c, .int .i64 lo, .int .i64 hi] ∧ RdL EItv 2 W a n xs) := Lib.hid (fun W h => ⟨SA.out.chg h n3g, rdl_itv (HXA.out.chg h (fun x hx => HNe.out x hx)) HL.out⟩)
  have HB3 := Lib.hid hb3
  have HWA := Lib.hid hwA
  have HS1 := Lib.hid hsA
  have HS0 := Lib.hid (show w.heap.size ≤ wA.heap.size from by omega)
  clear h hx hl ha hok hb3 hwA hsA gA HP HXA SA HNe
  go_enter Try.func80, Try.ntmps80
  go_wp2
  simp only [HWA.out, HB3.out, HS1.out]
  refine wp_let_c ?_
  intro E hE
  have HT0 : Hid (Two g wA (P + 3 * 0) 0 (.slice (some ⟨wA.heap.size, 0, none⟩) 0 0) (.slice (some ⟨wA.heap.size + 1, 0, none⟩) 0 0) 0 E) := Lib.hid (by
    rw [hE]
    refine ⟨ChgG.of_grew (grew_al (grew_al (Below.refl _ _) _) _), (RA.out.grew (grew_al (grew_al (Below.refl _ _) _) _)).mono (by omega), ⟨[], (World.ownsRow_lit wA #[] 0 (Nat.le_refl _) (Nat.zero_le _) rfl).alloc _⟩, ⟨[], ?_⟩, fun b hb e => ?_⟩
    · simpa [ints] using World.ownsRow_lit (wA.alloc (.cells #[] 3)) (e := 3) (size := 1) #[] 0 (base := wA.heap.size) (by simp) (Nat.zero_le _) rfl
    · simp only [Value.ownBlock, Option.some.injEq] at hb e
      omega)
  clear hE
  go_loopw [6, 8] (fun v i wr => ∃ (k : Nat) (a1 : Option Addr) (c1 : Nat), k ≤ 4 ∧ i = .int .i64 k ∧ v = .slice a1 k c1 ∧ Two g wA (P + 3 * k) k (.slice a1 k c1) (.slice (some ⟨wA.heap.size + 1, 0, none⟩) 0 0) 0 wr) (fun _ i _ => 4 - (intOf i).toNat)
  case atStart => exact ⟨0, _, _, Nat.zero_le _, rfl, rfl, HT0.out⟩
  case round =>
    clear HT0
    obtain ⟨k, a1, c1, hk, rfl, rfl, hT⟩ := hrel
    obtain ⟨hbx, hrdl⟩ := HSrc.out _ hT.ch
    have HT := Lib.hid hT
    have s0 : wr.cell? ⟨b3, 0, none⟩ = some (.bool on) := hbx.cell 0
    have s1 : wr.cell? ⟨b3, 1, none⟩ = some (.slice a n c) := hbx.cell 1
    have sl := hbx.lt
    clear hbx hT
    by_cases hlt : k < 4
    · have hki : (k : Int) < 4 := by omega
      cases on
      · clear hrdl
        go_wp2_with fail
        refine Calls.mono (numG HT.out.rd (by omega)) ?_
        rintro e w2 ⟨v, rfl, ⟨z, rfl, _⟩, hr2, hc2⟩
        obtain ⟨a2, c2, w3, hrun, hT3⟩ := (HT.out.cg hc2 hr2 lt1).app lt1 (by omega) z
        have HRun := Lib.hid hrun
        have HT3 := Lib.hid hT3
        clear hrun hT3 hr2 hc2 s0 s1 sl
        go_wp2_with (at_builtin; refine wpList_append_run rfl _ _ rfl rfl rfl rfl HRun.out ?_; clear HRun)
        go_roundw
        case rel => exact ⟨k + 1, a2, c2, by omega, by go_num, rfl, HT3.out⟩
        case measure => simp [intOf]; omega
      · have hall := itvB_all HOk.out
        have hx4 : xs.length = 4 := by obtain ⟨_, x0, x1, x2, x3, rfl, _⟩ := st_four HOk.out; rfl
        obtain rfl : n = 4 := by rw [← HL.out, hx4]
        obtain ⟨b, off, xl, xh, rfl, hxk, d0, d1, db⟩ := rdItv_at hrdl hlt
        have hik := hall _ (List.mem_of_getElem? hxk)
        have HIk := Lib.hid hik
        clear hrdl hall hx4 hxk hik
        go_wp2_with fail
        refine Calls.mono (ofG HT.out.rd (by omega) HIk.out) ?_
        rintro e w2 ⟨v, rfl, ⟨z, rfl⟩, hr2, hc2⟩
        obtain ⟨a2, c2, w3, hrun, hT3⟩ := (HT.out.cg hc2 hr2 lt1).app lt1 (by omega) z
        have HRun := Lib.hid hrun
        have HT3 := Lib.hid hT3
        clear hrun hT3 hr2 hc2 s0 s1 sl d0 d1
        go_wp2_with (at_builtin; refine wpList_append_run rfl _ _ rfl rfl rfl rfl HRun.out ?_; clear HRun)
        go_roundw
        case rel => exact ⟨k + 1, a2, c2, by omega, by go_num, rfl, HT3.out⟩
        case measure => simp [intOf]; omega
    · obtain rfl : k = 4 := by omega
      have HT4 : Hid (Two g wA (P + 12 + 3 * 0) 0 (.slice (some ⟨wA.heap.size + 1, 0, none⟩) 0 0) (.slice a1 4 c1) 4 wr) := Lib.hid ⟨HT.out.ch, HT.out.rd.mono (by omega), HT.out.oth, HT.out.row, fun b hb e => HT.out.ne b e hb⟩
      clear HT hrdl s0 s1 sl
      go_wp2
      go_loopw [7, 9] (fun v i wr => ∃ (k : Nat) (a2 : Option Addr) (c2 : Nat), k ≤ 4 ∧ i = .int .i64 k ∧ v = .slice a2 k c2 ∧ Two g wA (P + 12 + 3 * k) k (.slice a2 k c2) (.slice a1 4 c1) 4 wr) (fun _ i _ => 4 - (intOf i).toNat)
      case atStart => exact ⟨0, _, _, Nat.zero_le _, rfl, rfl, HT4.out⟩
      case round =>
        clear HT4
        obtain ⟨k, a2, c2, hk, rfl, rfl, hT⟩ := hrel
        obtain ⟨hbx, _⟩ := HSrc.out _ hT.ch
        have HT := Lib.hid hT
        have s0 : wr.cell? ⟨b3, 0, none⟩ = some (.bool on) := hbx.cell 0
        have s2 : wr.cell? ⟨b3, 2, none⟩ = some (.int .i64 lo) := hbx.cell 2
        have s3 : wr.cell? ⟨b3, 3, none⟩ = some (.int .i64 hi) := hbx.cell 3
        have sl := hbx.lt
        clear hbx hT
        by_cases hlt : k < 4
        · have hki : (k : Int) < 4 := by omega
          cases on
          · go_wp2_with fail
            refine Calls.mono (numG HT.out.rd (by omega)) ?_
            rintro e w2 ⟨v, rfl, ⟨z, rfl, _⟩, hr2, hc2⟩
            obtain ⟨a3, c3, w3, hrun, hT3⟩ := (HT.out.cg hc2 hr2 lt1).app lt1 (by omega) z
            have HRun := Lib.hid hrun
            have HT3 := Lib.hid hT3
            clear hrun hT3 hr2 hc2 s0 s2 s3 sl
            go_wp2_with (at_builtin; refine wpList_append_run rfl _ _ rfl rfl rfl rfl HRun.out ?_; clear HRun)
            go_roundw
            case rel =>
              refine ⟨_, _, _, _, _, _, _, _, _, _, _, _, _, _, _, _, _, _, _, _, ⟨k + 1, a3, c3, by omega, ?_, rfl, HT3.out⟩, rfl⟩
              go_num
            case measure => simp [intOf]; omega
          · have HIk := Lib.hid (st_four HOk.out).1
            go_wp2_with fail
            refine Calls.mono (ofG HT.out.rd (by omega) HIk.out) ?_
            rintro e w2 ⟨v, rfl, ⟨z, rfl⟩, hr2, hc2⟩
            obtain ⟨a3, c3, w3, hrun, hT3⟩ := (HT.out.cg hc2 hr2 lt1).app lt1 (by omega) z
            have HRun := Lib.hid hrun
            have HT3 := Lib.hid hT3
            clear hrun hT3 hr2 hc2 s0 s2 s3 sl
            go_wp2_with (at_builtin; refine wpList_append_run rfl _ _ rfl rfl rfl rfl HRun.out ?_; clear HRun)
            go_roundw
            case rel =>
              refine ⟨_, _, _, _, _, _, _, _, _, _, _, _, _, _, _, _, _, _, _, _, ⟨k + 1, a3, c3, by omega, ?_, rfl, HT3.out⟩, rfl⟩
              go_num
            case measure => simp [intOf]; omega
        · obtain rfl : k = 4 := by omega
          clear s0 s2 s3 sl
          go_wp2
          go_ret2
          obtain ⟨us, hu⟩ := HT.out.oth
          obtain ⟨vs, hv⟩ := HT.out.row
          exact ⟨a1, c1, a2, c2, rfl, ⟨us, owns_mono hu HS0.out⟩, ⟨vs, owns_mono hv HS0.out⟩, fun b hb e => HT.out.ne b e hb, HT.out.rd.mono (by omega), ChgG.trans (ChgG.of_grew GA.out) HT.out.ch⟩
end Go.Proofs.Ytnjoofpllhbccaa

/- The draw of two states. No condition. -/
namespace Go.Proofs.Ytnjoofpllhbccaa
open Go.RowKit
set_option linter.unusedVariables false
set_option linter.unusedSimpArgs false
attribute [local go_sem] dg_cell dg_frozen dg_lt dg_lt1 dg_lt2 dg_ne dg_ne1 dg_ne2 dg_new dg_wen lt_s2 lt_s3 lt_s4 lt_s5 lt_s6

theorem StD.rd2 {W : World} {B n c : Nat} {a : Option Addr} (h : StD W B a n c) : ∃ xs : List Itv, xs.length = n ∧ Rd W a n 2 (xs.flatMap Itv.cells) := by
  obtain ⟨h1, h2, ⟨rfl, rfl⟩ | ⟨t, rfl, h4, h5⟩⟩ := h
  · exact ⟨[], rfl, rfl, .inl rfl⟩
  · exact h5.rd2 h2
theorem StD.chgG {W W' : World} {B n c g : Nat} {a : Option Addr} (h : StD W B a n c) (k : ChgG g W W') (hg : g < B) : StD W' B a n c := h.chg k (fun t _ hB e => by omega)
theorem StD.set {W : World} {B n c : Nat} {a : Option Addr} (h : StD W B a n c) {p : Addr} (hp : p.block < B) (u : Value) : StD (W.setCell p u) B a n c :=
  h.chg (⟨rfl, rfl, rfl, by simp, fun k hk hn => Below.heap_setCell W p u k hn⟩ : Chg (fun b => b = p.block) W (W.setCell p u)) (fun t _ hB e => by omega)
/-- Two states were drawn. -/
def RetAI (w : World) (e : Ending) (w' : World) : Prop := ∃ on a n c lo hi on' a' n' c' lo' hi', e = .returned (.tuple #[.agg #[.bool on, .slice a n c, .int .i64 lo, .int .i64 hi], .agg #[.bool on', .slice a' n' c', .int .i64 lo', .int .i64 hi']]) ∧ StD w' 0 a n c ∧ StD w' 0 a' n' c' ∧ Grew w w'
/-- The four cells of a state's box. -/
abbrev S4 (b : Nat) (on : Bool) (a : Option Addr) (n c : Nat) (lo hi : Int) (W : World) : Prop := W.cell? ⟨b, 0, none⟩ = some (.bool on) ∧ W.cell? ⟨b, 1, none⟩ = some (.slice a n c) ∧ W.cell? ⟨b, 2, none⟩ = some (.int .i64 lo) ∧ W.cell? ⟨b, 3, none⟩ = some (.int .i64 hi)
theorem S4.set {b n c : Nat} {on : Bool} {a : Option Addr} {lo hi : Int} {W : World} (h : S4 b on a n c lo hi W) {p : Addr} (hp : p.block ≠ b) (u : Value) : S4 b on a n c lo hi (W.setCell p u) :=
  ⟨(World.cell?_setCell_far _ _ _ _ hp).trans h.1, (World.cell?_setCell_far _ _ _ _ hp).trans h.2.1, (World.cell?_setCell_far _ _ _ _ hp).trans h.2.2.1, (World.cell?_setCell_far _ _ _ _ hp).trans h.2.2.2⟩
theorem S4.of {b n c : Nat} {on : Bool} {a : Option Addr} {lo hi : Int} {W : World} (h : Blk W b 34 #[.bool on, .slice a n c, .int .i64 lo, .int .i64 hi]) : S4 b on a n c lo hi W := ⟨h.cell 0, h.cell 1, h.cell 2, h.cell 3⟩
abbrev Zw (W : World) (b : Nat) (u0 u1 u2 u3 : Value) : World := (((W.setCell ⟨b, 0, none⟩ u0).setCell ⟨b, 1, none⟩ u1).setCell ⟨b, 2, none⟩ u2).setCell ⟨b, 3, none⟩ u3
theorem S4.zw {b n c z : Nat} {on : Bool} {a : Option Addr} {lo hi : Int} {W : World} (h : S4 b on a n c lo hi W) (hz : z ≠ b) (u0 u1 u2 u3 : Value) : S4 b on a n c lo hi (Zw W z u0 u1 u2 u3) := (((h.set hz _).set hz _).set hz _).set hz _
theorem StD.zw {W : World} {B n c z : Nat} {a : Option Addr} (h : StD W B a n c) (hz : z < B) (u0 u1 u2 u3 : Value) : StD (Zw W z u0 u1 u2 u3) B a n c := (((h.set hz _).set hz _).set hz _).set hz _
theorem grew_zw {w W : World} {z : Nat} (h : Grew w W) (hz : w.heap.size ≤ z) (u0 u1 u2 u3 : Value) : Grew w (Zw W z u0 u1 u2 u3) := grew_set (grew_set (grew_set (grew_set h hz _) hz _) hz _) hz _

set_option maxRecDepth 100000 in
set_option maxHeartbeats 400000 in
theorem drawAbsIn (a : Option Addr) (n cap : Nat) (zs : List Int) (w : World) (hr : Rd w a n 1 (ints .u8 zs)) (hz : Bs zs) (hc : n ≤ cap ∧ cap ≤ maxLen) :
    Calls Try.prog 21 #[.slice a n cap] w (RetAI w) := by
  have HR0 := Lib.hid (hr.grew (grew_al (grew_al (Below.refl _ w) (.cells Zs 34)) (.cells Zs 34))); clear hr
  have HZ := Lib.hid hz; clear hz
  go_enter Try.func21, Try.ntmps21
  go_wp2_with fail
  refine (l20Open _ _ _ _ _ HR0.out HZ.out hc).mono ?_
  rintro e w1 ⟨rfl, h1, h2⟩
  have hY1 := Lib.hid (show Blk w1 w.heap.size 34 Zs from ((Blk.new w _ _).alloc _).grew h2)
  have hZ1 := Lib.hid (show Blk w1 (w.heap.size + 1) 34 Zs from (by simpa only [World.size_alloc] using Blk.new (w.alloc (.cells Zs 34)) 34 Zs : Blk _ (w.heap.size + 1) _ _).grew h2)
  have G1 := Lib.hid (show Grew w w1 from grew_tr (grew_al (grew_al (Below.refl _ w) _) _) h2)
  obtain ⟨g, hg⟩ : ∃ g, w.heap.size + 1 + 1 = g := ⟨_, rfl⟩
  simp only [World.size_alloc, hg] at h1 ⊢
  have hgw : w.heap.size + 1 < g := by omega
  have ngy : ¬ w.heap.size = g := by omega
  have ngz : ¬ w.heap.size + 1 = g := by omega
  have lg := h1.lt
  have H1 := Lib.hid h1
  clear h1 h2 hg HR0 HZ
  go_wp2_with fail
  refine Calls.mono (stateG (n := 12) H1.out (by omega) (by omega)) ?_
  rintro e w2 ⟨on, sa, sn, sc, lo, hi, rfl, hst, hr2, hc2⟩
  have hs2 := hc2.size
  obtain ⟨b5, hb5⟩ : ∃ b, w2.heap.size = b := ⟨_, rfl⟩
  have n5 : ¬ b5 = g := by omega
  have ny5 : ¬ w.heap.size = b5 := by omega
  have nz5 : ¬ w.heap.size + 1 = b5 := by omega
  go_wp2_with fail
  try simp only [hb5]
  refine calls_let ?_
  intro E hE
  have hal : Grew w2 E := by rw [hE]; exact grew_al (Below.refl _ _) _
  have CE := Lib.hid (show ChgG g w1 E from hc2.grew hal)
  have BE := Lib.hid (show Blk E b5 34 #[.bool on, .slice sa sn sc, .int .i64 lo, .int .i64 hi] from by rw [hE, ← hb5]; exact Blk.new _ _ _)
  have SE := Lib.hid (hst.grew hal)
  have RE := Lib.hid (hr2.grew hal)
  have hEs : w2.heap.size ≤ E.heap.size := hal.size
  clear hE hal hst hr2 hc2 H1 hb5
  obtain ⟨xs, hxl, hxr⟩ := SE.out.rd2
  have HOK := Lib.hid (specAbsOk on sa sn sc xs lo hi E (rdl_itv hxr hxl) (by have := SE.out.2.1; omega))
  have HXL := Lib.hid hxl
  clear hxr hxl
  obtain ⟨B, hB⟩ : ∃ B, w1.heap.size = B := ⟨_, rfl⟩
  have hgB : g < B := by omega
  have hn4 : stOkB on xs lo hi = true → on = true → sn = 4 := fun h1 h2 => by
    subst h2
    obtain ⟨_, x0, x1, x2, x3, h, _⟩ := st_four h1
    rw [← HXL.out, h]
    rfl
  refine HOK.out.mono ?_
  rintro e w3 ⟨rfl, g3⟩
  have C3 := Lib.hid (show ChgG g w1 w3 from CE.out.grew g3)
  have B3 := Lib.hid (BE.out.grew g3)
  have S3 : Hid (StD w3 B sa sn sc) := Lib.hid (by rw [← hB]; exact SE.out.grew g3)
  have R3 := Lib.hid (RE.out.grew g3)
  clear g3 HOK CE BE SE RE HXL hEs hs2
  cases hok : stOkB on xs lo hi
  · go_wp2_with fail
    refine wp_let_c ?_
    intro E2 hE2
    subst hE2
    obtain ⟨d0, d1, d2, d3⟩ : S4 b5 on sa sn sc lo hi E2 := S4.of B3.out
    go_region_held3 (fun W => W.cell? ⟨b5, 0, none⟩ = some (.bool on) ∧ W.cell? ⟨b5, 1, none⟩ = some (.slice sa sn sc) ∧ W.cell? ⟨b5, 2, none⟩ = some (.int .i64 lo) ∧ W.cell? ⟨b5, 3, none⟩ = some (.int .i64 hi)) (first | with_reducible assumption | with_reducible exact ⟨d0, d1, d2, d3⟩ | with_reducible exact hs8 | with_reducible exact S4.zw hs8 ny5 _ _ _ _ | with_reducible exact S4.zw hs8 nz5 _ _ _ _ | with_reducible exact S4.zw (S4.zw hs8 ny5 _ _ _ _) nz5 _ _ _ _ | with_reducible exact S4.zw (S4.zw hs8 nz5 _ _ _ _) ny5 _ _ _ _ | exact ⟨d0, d1, d2, d3⟩)
      (first
      | (go_at_call 79; refine Calls.mono (stateG (n := 12) (rd_drew R3.out) (by omega) (by omega)) ?_; rintro e w8 ⟨on8, a8, n8, c8, lo8, hi8, rfl, hst8, hr8, hc8⟩; have hcc8 : ChgG g E2 w8 := ChgG.trans (chg_drew (ChgG.refl _ _)) hc8; have hs8 : S4 b5 on sa sn sc lo hi w8 := S4.of (B3.out.chg hcc8 n5); have hy8 := hY1.out.chg (C3.out.trans hcc8) ngy; have hz8 := hZ1.out.chg (C3.out.trans hcc8) ngz; have y0 : w8.cell? ⟨w.heap.size, 0, none⟩ = some (.bool false) := hy8.cell 0; have y1 : w8.cell? ⟨w.heap.size, 1, none⟩ = some (.slice none 0 0) := hy8.cell 1; have y2 : w8.cell? ⟨w.heap.size, 2, none⟩ = some (.int .i64 0) := hy8.cell 2; have y3 : w8.cell? ⟨w.heap.size, 3, none⟩ = some (.int .i64 0) := hy8.cell 3; have z0 : w8.cell? ⟨w.heap.size + 1, 0, none⟩ = some (.bool false) := hz8.cell 0; have z1 : w8.cell? ⟨w.heap.size + 1, 1, none⟩ = some (.slice none 0 0) := hz8.cell 1; have z2 : w8.cell? ⟨w.heap.size + 1, 2, none⟩ = some (.int .i64 0) := hz8.cell 2; have z3 : w8.cell? ⟨w.heap.size + 1, 3, none⟩ = some (.int .i64 0) := hz8.cell 3; have yf := fun j => hy8.frozen j; have zf := fun j => hz8.frozen j; have yl := hy8.lt; have zl := hz8.lt; have HX8 := Lib.hid (And.intro hcc8 hst8); clear hcc8 hr8 hc8 hst8 hy8 hz8))
    go_wp2
    refine bodyPost_ret (by simp [results, Try.results21, go_sem, y0, y1, y2, y3, yl, z0, z1, z2, z3, zl]; try rfl) rfl ?_
    obtain ⟨hcc, hst⟩ := HX8.out
    have hgr : Grew w w8 := G1.out.trans ((C3.out.trans hcc).belowB G1.out.size (fun k hk => by omega))
    have hE2s := C3.out.size
    have hw8s := hcc.size
    refine ⟨_, _, _, _, _, _, _, _, _, _, _, _, rfl, ((hst.zw (z := w.heap.size) ?_ _ _ _ _).zw (z := w.heap.size + 1) ?_ _ _ _ _).mono (Nat.zero_le _), (((S3.out.chgG hcc hgB).zw (z := w.heap.size) ?_ _ _ _ _).zw (z := w.heap.size + 1) ?_ _ _ _ _).mono (Nat.zero_le _), grew_zw (grew_zw hgr (Nat.le_refl _) _ _ _ _) (by omega) _ _ _ _⟩
    all_goals first | omega | (simp only [World.size_drew]; omega)
  have hn4 := hn4 hok
  clear hok
  go_wp2_with fail
  refine Calls.mono (pickG (k := 2) R3.out (by omega) (by omega)) ?_
  rintro e w4 ⟨v, rfl, ⟨s, rfl, _⟩, hr4, hc4⟩
  have C3 := Lib.hid (C3.out.trans hc4)
  have B3 := Lib.hid (B3.out.chg hc4 n5)
  have S3 := Lib.hid (S3.out.chgG hc4 hgB)
  have R3 := Lib.hid hr4
  clear hr4 hc4
  by_cases hs0 : s = 0
  rotate_left
  · have q0 : ((s : Int) == 0) = false := beq_eq_false_iff_ne.2 (by omega)
    go_wp2_with fail
    refine wp_let_c ?_
    intro E2 hE2
    subst hE2
    obtain ⟨d0, d1, d2, d3⟩ : S4 b5 on sa sn sc lo hi E2 := S4.of B3.out
    go_region_held3 (fun W => W.cell? ⟨b5, 0, none⟩ = some (.bool on) ∧ W.cell? ⟨b5, 1, none⟩ = some (.slice sa sn sc) ∧ W.cell? ⟨b5, 2, none⟩ = some (.int .i64 lo) ∧ W.cell? ⟨b5, 3, none⟩ = some (.int .i64 hi)) (first | with_reducible assumption | with_reducible exact ⟨d0, d1, d2, d3⟩ | with_reducible exact hs8 | with_reducible exact S4.zw hs8 ny5 _ _ _ _ | with_reducible exact S4.zw hs8 nz5 _ _ _ _ | with_reducible exact S4.zw (S4.zw hs8 ny5 _ _ _ _) nz5 _ _ _ _ | with_reducible exact S4.zw (S4.zw hs8 nz5 _ _ _ _) ny5 _ _ _ _ | exact ⟨d0, d1, d2, d3⟩)
      (first
      | (go_at_call 79; refine Calls.mono (stateG (n := 12) (rd_drew R3.out) (by omega) (by omega)) ?_; rintro e w8 ⟨on8, a8, n8, c8, lo8, hi8, rfl, hst8, hr8, hc8⟩; have hcc8 : ChgG g E2 w8 := ChgG.trans (chg_drew (ChgG.refl _ _)) hc8; have hs8 : S4 b5 on sa sn sc lo hi w8 := S4.of (B3.out.chg hcc8 n5); have hy8 := hY1.out.chg (C3.out.trans hcc8) ngy; have hz8 := hZ1.out.chg (C3.out.trans hcc8) ngz; have y0 : w8.cell? ⟨w.heap.size, 0, none⟩ = some (.bool false) := hy8.cell 0; have y1 : w8.cell? ⟨w.heap.size, 1, none⟩ = some (.slice none 0 0) := hy8.cell 1; have y2 : w8.cell? ⟨w.heap.size, 2, none⟩ = some (.int .i64 0) := hy8.cell 2; have y3 : w8.cell? ⟨w.heap.size, 3, none⟩ = some (.int .i64 0) := hy8.cell 3; have z0 : w8.cell? ⟨w.heap.size + 1, 0, none⟩ = some (.bool false) := hz8.cell 0; have z1 : w8.cell? ⟨w.heap.size + 1, 1, none⟩ = some (.slice none 0 0) := hz8.cell 1; have z2 : w8.cell? ⟨w.heap.size + 1, 2, none⟩ = some (.int .i64 0) := hz8.cell 2; have z3 : w8.cell? ⟨w.heap.size + 1, 3, none⟩ = some (.int .i64 0) := hz8.cell 3; have yf := fun j => hy8.frozen j; have zf := fun j => hz8.frozen j; have yl := hy8.lt; have zl := hz8.lt; have HX8 := Lib.hid (And.intro hcc8 hst8); clear hcc8 hr8 hc8 hst8 hy8 hz8))
    go_wp2
    refine bodyPost_ret (by simp [results, Try.results21, go_sem, y0, y1, y2, y3, yl, z0, z1, z2, z3, zl]; try rfl) rfl ?_
    obtain ⟨hcc, hst⟩ := HX8.out
    have hgr : Grew w w8 := G1.out.trans ((C3.out.trans hcc).belowB G1.out.size (fun k hk => by omega))
    have hE2s := C3.out.size
    have hw8s := hcc.size
    refine ⟨_, _, _, _, _, _, _, _, _, _, _, _, rfl, ((hst.zw (z := w.heap.size) ?_ _ _ _ _).zw (z := w.heap.size + 1) ?_ _ _ _ _).mono (Nat.zero_le _), (((S3.out.chgG hcc hgB).zw (z := w.heap.size) ?_ _ _ _ _).zw (z := w.heap.size + 1) ?_ _ _ _ _).mono (Nat.zero_le _), grew_zw (grew_zw hgr (Nat.le_refl _) _ _ _ _) (by omega) _ _ _ _⟩
    all_goals first | omega | (simp only [World.size_drew]; omega)
  subst hs0
  go_wp2_with fail
  refine wp_let_c ?_
  intro E2 hE2
  subst hE2
  obtain ⟨d0, d1, d2, d3⟩ : S4 b5 on sa sn sc lo hi E2 := S4.of B3.out
  go_region_held3 (fun W => W.cell? ⟨b5, 0, none⟩ = some (.bool on) ∧ W.cell? ⟨b5, 1, none⟩ = some (.slice sa sn sc) ∧ W.cell? ⟨b5, 2, none⟩ = some (.int .i64 lo) ∧ W.cell? ⟨b5, 3, none⟩ = some (.int .i64 hi)) (first | with_reducible assumption | with_reducible exact ⟨d0, d1, d2, d3⟩ | with_reducible exact hs8 | with_reducible exact S4.zw hs8 ny5 _ _ _ _ | with_reducible exact S4.zw hs8 nz5 _ _ _ _ | with_reducible exact S4.zw (S4.zw hs8 ny5 _ _ _ _) nz5 _ _ _ _ | with_reducible exact S4.zw (S4.zw hs8 nz5 _ _ _ _) ny5 _ _ _ _ | exact ⟨d0, d1, d2, d3⟩)
    (first
    | (go_at_call 82; refine Calls.mono (withinG (rd_drew R3.out) (by omega) (((S3.out.grew (grew_d (Below.refl _ _))).mono (by omega))) hn4) ?_; rintro e w8 ⟨on8, a8, n8, c8, lo8, hi8, rfl, hst8, hr8, hc8⟩; have hcc8 : ChgG g E2 w8 := ChgG.trans (chg_drew (ChgG.refl _ _)) hc8; have hs8 : S4 b5 on sa sn sc lo hi w8 := S4.of (B3.out.chg hcc8 n5); have hy8 := hY1.out.chg (C3.out.trans hcc8) ngy; have hz8 := hZ1.out.chg (C3.out.trans hcc8) ngz; have y0 : w8.cell? ⟨w.heap.size, 0, none⟩ = some (.bool false) := hy8.cell 0; have y1 : w8.cell? ⟨w.heap.size, 1, none⟩ = some (.slice none 0 0) := hy8.cell 1; have y2 : w8.cell? ⟨w.heap.size, 2, none⟩ = some (.int .i64 0) := hy8.cell 2; have y3 : w8.cell? ⟨w.heap.size, 3, none⟩ = some (.int .i64 0) := hy8.cell 3; have z0 : w8.cell? ⟨w.heap.size + 1, 0, none⟩ = some (.bool false) := hz8.cell 0; have z1 : w8.cell? ⟨w.heap.size + 1, 1, none⟩ = some (.slice none 0 0) := hz8.cell 1; have z2 : w8.cell? ⟨w.heap.size + 1, 2, none⟩ = some (.int .i64 0) := hz8.cell 2; have z3 : w8.cell? ⟨w.heap.size + 1, 3, none⟩ = some (.int .i64 0) := hz8.cell 3; have yf := fun j => hy8.frozen j; have zf := fun j => hz8.frozen j; have yl := hy8.lt; have zl := hz8.lt; have HX8 := Lib.hid (And.intro hcc8 hst8); clear hcc8 hr8 hc8 hst8 hy8 hz8))
  go_wp2
  refine bodyPost_ret (by simp [results, Try.results21, go_sem, y0, y1, y2, y3, yl, z0, z1, z2, z3, zl]; try rfl) rfl ?_
  obtain ⟨hcc, hst⟩ := HX8.out
  have hgr : Grew w w8 := G1.out.trans ((C3.out.trans hcc).belowB G1.out.size (fun k hk => by omega))
  have hE2s := C3.out.size
  have hw8s := hcc.size
  refine ⟨_, _, _, _, _, _, _, _, _, _, _, _, rfl, ((hst.zw (z := w.heap.size) ?_ _ _ _ _).zw (z := w.heap.size + 1) ?_ _ _ _ _).mono (Nat.zero_le _), (((S3.out.chgG hcc hgB).zw (z := w.heap.size) ?_ _ _ _ _).zw (z := w.heap.size + 1) ?_ _ _ _ _).mono (Nat.zero_le _), grew_zw (grew_zw hgr (Nat.le_refl _) _ _ _ _) (by omega) _ _ _ _⟩
  all_goals first | omega | (simp only [World.size_drew]; omega)
end Go.Proofs.Ytnjoofpllhbccaa

/- The draw of a state, variables and cells. No condition. -/
namespace Go.Proofs.Ytnjoofpllhbccaa
open Go.RowKit
set_option linter.unusedVariables false
set_option linter.unusedSimpArgs false
attribute [local go_sem] dg_cell dg_frozen dg_lt dg_lt1 dg_lt2 dg_ne dg_ne1 dg_ne2 dg_new dg_wen lt_s2 lt_s3 lt_s4 lt_s5 lt_s6

/-- A state, variables and cells were drawn. -/
def RetAH (w : World) (e : Ending) (w' : World) : Prop := ∃ on a n c lo hi va vn vc vs ca cn cc cs, e = .returned (.tuple #[.agg #[.bool on, .slice a n c, .int .i64 lo, .int .i64 hi], .slice va vn vc, .slice ca cn cc]) ∧ StD w' 0 a n c ∧ Rd w' va vn 1 (ints .i64 vs) ∧ Rd w' ca cn 1 (ints .i64 cs) ∧ vn ≤ 5 ∧ cn ≤ 5 ∧ Grew w w'
/-- A row of four numbers, in none of these blocks. -/
def IsRow (B : Nat) (FF : Nat → Prop) (W : World) (v : Value) : Prop := ∃ a c vs, v = .slice a 4 c ∧ W.ownsRow B 3 1 (.slice a 4 c) 4 (ints .i64 vs) ∧ ∀ t, (Value.slice a 4 c).ownBlock = some t → ¬ FF t
def prRow (B : Nat) {F : Nat → Prop} (FF : Nat → Prop) (hF : ∀ b, F b → FF b) : Pr F := ⟨IsRow B FF, fun W W' v c ⟨a, c1, vs, h1, h2, h3⟩ => ⟨a, c1, vs, h1, owns_chg h2 c (fun b hb e => h3 b hb (hF b e)), h3⟩⟩
section
variable {ops : Array Oper} {Q : Exit → Act → World → Prop} {a0 : Act} {g PP : Nat} {c : Nat → Nat} {J : World → Prop} {F : Nat → Prop} {R : Nat → World → Value → Prop} {i : Nat} {o : Oper}
theorem ds_nums {B : Nat} {FF : Nat → Prop} (d k : Nat) (h : ∀ (a : Act) (W : World), (execOp a.eval o).run Try.prog W = .ok (.enter 68 #[a.eval (.tmp d), .int .i64 (4 : Nat)]) W)
    (h1 : Dep ops o k d) (hs1 : ∀ W v, R k W v → v = .pointer (some ⟨g, 0, none⟩)) (hc : c i = 12) (hPP : PP + 20 ≤ 1099511627776)
    (hJ : ∀ W W', J W → ChgG g W W' → J W') (hFl : ∀ W, J W → ∀ t, FF t → t < W.heap.size) (hB : ∀ W, J W → B ≤ W.heap.size) (hR : ∀ W v, IsRow B FF W v → R i W v) (hF : F g) : DStep Try.prog ops Q a0 g PP c J F R i o := by
  intro a w p hp hJ1 hr hf hd
  have e1 := hs1 _ _ (dep_of h1 hd)
  rw [hc] at hp
  refine op_enter (h a w) ?_
  rw [e1]
  refine Calls.mono (l20Nums g p 4 w hr (by omega)) ?_
  rintro e W' ⟨v, zs, rfl, _, ho, hr', hc'⟩
  obtain ⟨ra, rc, rfl⟩ := owns_slice ho
  refine ⟨_, rfl, _, rfl, hR _ _ ⟨ra, rc, zs, rfl, owns_mono ho (hB _ hJ1), fun t ht e => ?_⟩, hJ _ _ hJ1 hc', by rw [hc]; exact hr', ⟨hc'.os, hc'.tape, hc'.output, hc'.size, fun k hk hn => hc'.block k hk (fun e => hn (e ▸ hF))⟩⟩
  have := hFl _ hJ1 t e
  have := (ho.lt t ht).1
  omega
end
theorem Rd.chgS {w w' : World} {a : Option Addr} {n t : Nat} {zs : List Int} {u : Bool} {sa : Option Addr} {sn sc : Nat} {x y : Int} (h : Rd w a n 1 (ints .u8 zs)) (hb : Blk w t 34 #[.bool u, .slice sa sn sc, .int .i64 x, .int .i64 y]) (hc : Chg (fun b => b = t) w w') : Rd w' a n 1 (ints .u8 zs) := by
  refine ⟨h.1, ?_⟩
  rcases h.2 with h2 | ⟨b, off, rfl, h3⟩
  · exact .inl h2
  · refine .inr ⟨b, off, rfl, fun j v hv => ?_⟩
    have h4 := h3 j v hv
    have hbt : ¬ b = t := by
      rintro rfl
      rw [hb.cell] at h4
      simp only [ints, List.getElem?_map, Option.map_eq_some_iff] at hv
      obtain ⟨z, _, rfl⟩ := hv
      rcases hk : off + j with _ | _ | _ | _ | k <;> rw [hk] at h4 <;> simp at h4
    rw [World.cell?_of_block (w := w) (w' := w') (a := ⟨b, off + j, none⟩) (hc.block b (World.block_lt_of_cell? w _ h4) hbt)]
    exact h4
theorem RdLe.chgS {w w' : World} {g P t : Nat} {u : Bool} {sa : Option Addr} {sn sc : Nat} {x y : Int} (h : RdLe w g P) (hb : Blk w t 34 #[.bool u, .slice sa sn sc, .int .i64 x, .int .i64 y]) (hg : ¬ g = t) (hc : Chg (fun b => b = t) w w') : RdLe w' g P := by
  obtain ⟨p, hp, a, n, c, zs, h1, h2, h3, h4, h5⟩ := h
  exact ⟨p, hp, a, n, c, zs, (hc.block g (Array.getElem?_eq_some_iff.1 h1).1 hg).trans h1, h2.chgS hb hc, h3, h4, h5⟩
theorem own_ge {w : World} {B n c size : Nat} {t : TypeId} {a : Option Addr} {xs : List Value} (h : w.ownsRow B t size (.slice a n c) n xs) : ∀ x, a = some x → B ≤ x.block := by
  intro x hx
  rcases h.2 with ⟨e, _⟩ | ⟨g', cap', cur, e, h3, _⟩
  · cases e
    cases hx
  · simp only [Value.slice.injEq] at e
    rw [e.1] at hx
    cases hx
    exact h3
theorem own_blkB {w : World} {B n c size : Nat} {t : TypeId} {a : Option Addr} {xs : List Value} (h : w.ownsRow B t size (.slice a n c) n xs) {x : Addr} (hx : a = some x) : (Value.slice a n c).ownBlock = some x.block := by
  rcases h.2 with ⟨e, _⟩ | ⟨g', cap', cur, e, h3, _⟩
  · cases e
    cases hx
  · rw [e]
    simp only [Value.slice.injEq] at e
    rw [e.1] at hx
    cases hx
    rfl
theorem rd_setI {w : World} {b off n j : Nat} {vs : List Int} (h : Rd w (some ⟨b, off, none⟩) n 1 (ints .i64 vs)) (hj : j < n) (z : Int) : Rd (w.setCell ⟨b, off + j, none⟩ (.int .i64 z)) (some ⟨b, off, none⟩) n 1 (ints .i64 (vs.set j z)) := by
  have hl := h.len1
  obtain ⟨b', off', x, e, hx, hc⟩ := h.at1 hj
  cases e
  have h2 : ∀ i u, (ints .i64 vs)[i]? = some u → w.cell? ⟨b, off + i, none⟩ = some u := by
    rcases h.2 with h3 | ⟨b', off', e, h3⟩
    · intro i u hu
      rw [h3] at hu
      simp at hu
    · cases e
      exact h3
  refine ⟨by simp [ints, hl], .inr ⟨b, off, rfl, fun i u hu => ?_⟩⟩
  simp only [ints, List.getElem?_map, Option.map_eq_some_iff] at hu
  obtain ⟨y, hy, rfl⟩ := hu
  by_cases e : i = j
  · subst e
    rw [List.getElem?_set_self (by omega)] at hy
    cases hy
    exact World.cell?_setCell_same _ _ _ hc
  · rw [List.getElem?_set_ne (fun h => e h.symm)] at hy
    rw [World.cell?_setCell_other _ _ _ _ (fun h => by have := congrArg Addr.off h; simp only at this; omega)]
    exact h2 i _ (by simp [ints, hy])
theorem own_b {W : World} {B c : Nat} {e : TypeId} {a : Option Addr} {xs : List Value} (h : W.ownsRow B e 1 (.slice a 4 c) 4 xs) : ∃ t cur, a = some ⟨t, 0, none⟩ ∧ B ≤ t ∧ 4 ≤ c ∧ Blk W t e cur := by
  rcases h.2 with ⟨_, e2⟩ | ⟨g', cap', cur, e2, h3, h4, h5, _⟩
  · omega
  · simp only [Value.slice.injEq] at e2
    obtain ⟨rfl, _, rfl⟩ := e2
    exact ⟨g', cur, rfl, h3, h5, h4⟩
theorem blk_type {W : World} {t : Nat} {e1 e2 : TypeId} {c1 c2 : Array Value} (h : Blk W t e1 c1) (k : Blk W t e2 c2) : e1 = e2 := by
  unfold Blk at h k
  rw [h] at k
  cases k
  rfl
theorem StD.farI {W : World} {B n c t o : Nat} {a : Option Addr} {cur : Array Value} (h : StD W B a n c) (hb : Blk W t 3 cur) (u : Value) : StD (W.setCell ⟨t, o, none⟩ u) B a n c := by
  obtain ⟨h1, h2, h3 | ⟨t', h3, h4, h5⟩⟩ := h
  · exact ⟨h1, h2, .inl h3⟩
  · refine ⟨h1, h2, .inr ⟨t', h3, h4, h5.far (fun e => ?_) u⟩⟩
    simp only at e
    subst e
    obtain ⟨arr, h6, _⟩ := h5
    have := blk_type h6 hb
    revert this
    decide
theorem StD.own {W W' : World} {B B' n c k : Nat} {a : Option Addr} {v : Value} {xs : List Value} (h : StD W B a n c) (ho : W.ownsRow B' 3 1 v k xs) (hc : Chg (fun b => v.ownBlock = some b) W W') : StD W' B a n c :=
  h.chg hc (fun t e hB hb => by
    obtain ⟨_, _, ⟨_, h3⟩ | ⟨t', h3, h4, arr, h5, _⟩⟩ := h
    · rw [h3] at e
      cases e
    · rw [h3] at e
      cases e
      exact blk_ne h5 ho (by decide) hb)
theorem rd_zw {W : World} {a : Option Addr} {n z : Nat} {cs : List Value} (h : Rd W a n 1 cs) (hz : ∀ x, a = some x → z < x.block) (u0 u1 u2 u3 : Value) : Rd (Zw W z u0 u1 u2 u3) a n 1 cs :=
  h.chg (chg1 (chg1 (chg1 (chg1 (Chg.refl _ _) _) _) _) _ : Chg (fun b => b = z) W (Zw W z u0 u1 u2 u3)) (fun x hx e => by have := hz x hx; omega)
/-- What stands while a state is handed on: its box at b, the answer's box at z. -/
def JH (w : World) (z b B : Nat) (on : Bool) (sa : Option Addr) (sn sc : Nat) (lo hi : Int) (W : World) : Prop :=
  Grew w W ∧ (∃ u a n c x y, Blk W z 34 #[.bool u, .slice a n c, .int .i64 x, .int .i64 y] ∧ StD W B a n c) ∧ Blk W b 34 #[.bool on, .slice sa sn sc, .int .i64 lo, .int .i64 hi] ∧ StD W B sa sn sc
theorem JH.cg {w W W' : World} {z b B sn sc g : Nat} {on : Bool} {sa : Option Addr} {lo hi : Int} (h : JH w z b B on sa sn sc lo hi W) (c : ChgG g W W') (hw : w.heap.size ≤ g) (hz : ¬ z = g) (hb : ¬ b = g) (hB : g < B) : JH w z b B on sa sn sc lo hi W' := by
  obtain ⟨h1, ⟨u, a, n, c1, x, y, h2, h3⟩, h4, h5⟩ := h
  exact ⟨h1.trans (c.belowB h1.size (fun k hk => by omega)), ⟨u, a, n, c1, x, y, h2.chg c hz, h3.chgG c hB⟩, h4.chg c hb, h5.chgG c hB⟩

set_option maxRecDepth 100000 in
set_option maxHeartbeats 1000000 in
theorem drawAbsHas (a : Option Addr) (n cap : Nat) (zs : List Int) (w : World) (hr : Rd w a n 1 (ints .u8 zs)) (hz : Bs zs) (hc : n ≤ cap ∧ cap ≤ maxLen) :
    Calls Try.prog 20 #[.slice a n cap] w (RetAH w) := by
  have HR0 := Lib.hid (hr.grew (grew_al (Below.refl _ w) (.cells Zs 34))); clear hr
  have HZ := Lib.hid hz; clear hz
  go_enter Try.func20, Try.ntmps20
  go_wp2_with fail
  refine (l20Open _ _ _ _ _ HR0.out HZ.out hc).mono ?_
  rintro e w1 ⟨rfl, h1, h2⟩
  have hZ1 := Lib.hid (show Blk w1 w.heap.size 34 Zs from (Blk.new w _ _).grew h2)
  have G1 := Lib.hid (show Grew w w1 from grew_tr (grew_al (Below.refl _ w) _) h2)
  obtain ⟨g, hg⟩ : ∃ g, w.heap.size + 1 = g := ⟨_, rfl⟩
  simp only [World.size_alloc, hg] at h1 ⊢
  have hgw : w.heap.size < g := by omega
  have ngz : ¬ w.heap.size = g := by omega
  have lg := h1.lt
  have H1 := Lib.hid h1
  clear h1 h2 hg HR0 HZ
  go_wp2_with fail
  refine Calls.mono (stateG (n := 12) H1.out (by omega) (by omega)) ?_
  rintro e w2 ⟨on, sa, sn, sc, lo, hi, rfl, hst, hr2, hc2⟩
  have hs2 := hc2.size
  obtain ⟨b5, hb5⟩ : ∃ b, w2.heap.size = b := ⟨_, rfl⟩
  have n5 : ¬ b5 = g := by omega
  have nz5 : ¬ w.heap.size = b5 := by omega
  go_wp2_with fail
  try simp only [hb5]
  refine calls_let ?_
  intro E hE
  have hal : Grew w2 E := by rw [hE]; exact grew_al (Below.refl _ _) _
  have CE := Lib.hid (show ChgG g w1 E from hc2.grew hal)
  have BE := Lib.hid (show Blk E b5 34 #[.bool on, .slice sa sn sc, .int .i64 lo, .int .i64 hi] from by rw [hE, ← hb5]; exact Blk.new _ _ _)
  have SE := Lib.hid (hst.grew hal)
  have RE := Lib.hid (hr2.grew hal)
  have hw15 : w1.heap.size ≤ b5 := by omega
  clear hE hal hst hr2 hc2 H1 hb5
  obtain ⟨xs, hxl, hxr⟩ := SE.out.rd2
  have HOK := Lib.hid (specAbsOk on sa sn sc xs lo hi E (rdl_itv hxr hxl) (by have := SE.out.2.1; omega))
  have HXL := Lib.hid hxl
  have HXR := Lib.hid hxr
  clear hxr hxl
  obtain ⟨B, hB⟩ : ∃ B, w1.heap.size = B := ⟨_, rfl⟩
  have hgB : g < B := by omega
  have hwB : w.heap.size < B := by omega
  have hBb : B ≤ b5 := by omega
  refine HOK.out.mono ?_
  rintro e w3 ⟨rfl, g3⟩
  have C3 := Lib.hid (show ChgG g w1 w3 from CE.out.grew g3)
  have B3 := Lib.hid (BE.out.grew g3)
  have S3 : Hid (StD w3 B sa sn sc) := Lib.hid (by rw [← hB]; exact SE.out.grew g3)
  have X3 := Lib.hid (HXR.out.grew g3)
  have R3 := Lib.hid (RE.out.grew g3)
  have Z3 := Lib.hid (hZ1.out.chg C3.out ngz)
  have G3 := Lib.hid (show Grew w w3 from G1.out.trans (C3.out.belowB G1.out.size (fun k hk => by omega)))
  have hB3 : B ≤ w3.heap.size := by rw [← hB]; exact C3.out.size
  clear g3 HOK CE BE SE RE hs2 HXR hZ1
  cases hok : stOkB on xs lo hi
  · clear hok HXL X3
    have hJ0 : JH w w.heap.size b5 B on sa sn sc lo hi w3 := ⟨G3.out, ⟨false, none, 0, 0, 0, 0, Z3.out, StD.zero _ _⟩, B3.out, S3.out⟩
    have hJC : ∀ W W', JH w w.heap.size b5 B on sa sn sc lo hi W → ChgG g W W' → JH w w.heap.size b5 B on sa sn sc lo hi W' := fun W W' h c => h.cg c (by omega) ngz n5 hgB
    obtain ⟨FF, hFFe⟩ : ∃ FF : Nat → Prop, FF = fun t => t = g ∨ t = w.heap.size := ⟨_, rfl⟩
    have hFF : ∀ b, (b = g ∨ b = w.heap.size) → FF b := fun b hb => by rw [hFFe]; exact hb
    have hFl : ∀ W, JH w w.heap.size b5 B on sa sn sc lo hi W → ∀ t, FF t → t < W.heap.size := fun W h t ht => by
      rw [hFFe] at ht
      have := h.2.2.1.lt
      rcases ht with rfl | rfl <;> omega
    have hBW : ∀ W, JH w w.heap.size b5 B on sa sn sc lo hi W → B ≤ W.heap.size := fun W h => by have := h.2.2.1.lt; omega
    clear Z3 G3 S3 B3 C3 hFFe
    go_wp2_with fail
    have hPP : 0 + 200 + 24 + 20 ≤ 1099511627776 := by omega
    refine region_drawL g (0 + 200) 24 57 [0, 0, 12, 0, 12, 0, 0, 0] (JH w w.heap.size b5 B on sa sn sc lo hi) (fun b => b = g ∨ b = w.heap.size)
      [prV (fun v => v = .agg #[.bool on, .slice sa sn sc, .int .i64 lo, .int .i64 hi]), prV (fun v => v = .pointer (some ⟨g, 0, none⟩)), prRow B FF hFF, prV (fun v => v = .pointer (some ⟨g, 0, none⟩)), prRow B FF hFF, prT, prRow B FF hFF, prRow B FF hFF]
      (by kernel_rfl) rfl (by kernel_rfl) (by kernel_rfl) (hJC _ _ hJ0 (chg_drew (ChgG.refl _ _))) R3.out ⟨?_, ?_, ?_, ?_, ?_, ?_, ?_, ?_, trivial⟩ ?_
    · exact ds_run (.agg #[.bool on, .slice sa sn sc, .int .i64 lo, .int .i64 hi]) (fun A W hJ hf hd => by
        have e0 : A.eval (.tmp 6) = .pointer (some ⟨b5, 0, none⟩) := (hf 6 (hasNo_spec (by kernel_rfl))).trans rfl
        obtain ⟨d0, d1, d2, d3⟩ := S4.of hJ.2.2.1
        simp only [execOp, e0]
        simp [go_sem, d0, d1, d2, d3]) (fun _ => rfl)
    · exact ds_move 5 _ rfl (by kernel_rfl) rfl (fun _ => rfl)
    · exact ds_nums (B := B) (FF := FF) 17 1 (fun _ _ => by kernel_rfl) ⟨⟨⟨1, .data⟩, by simp, rfl, by kernel_rfl⟩, by kernel_rfl⟩ (fun _ _ h => h) rfl hPP hJC hFl hBW (fun _ _ h => h) (.inl rfl)
    · exact ds_move 5 _ rfl (by kernel_rfl) rfl (fun _ => rfl)
    · exact ds_nums (B := B) (FF := FF) 19 3 (fun _ _ => by kernel_rfl) ⟨⟨⟨3, .data⟩, by simp, rfl, by kernel_rfl⟩, by kernel_rfl⟩ (fun _ _ h => h) rfl hPP hJC hFl hBW (fun _ _ h => h) (.inl rfl)
    · intro A W p hp hJ hr hf hd
      have e0 : A.eval (.tmp 2) = .pointer (some ⟨w.heap.size, 0, none⟩) := (hf 2 (hasNo_spec (by kernel_rfl))).trans rfl
      have e1 : A.eval (.tmp 16) = .agg #[.bool on, .slice sa sn sc, .int .i64 lo, .int .i64 hi] := dep_of (k := 0) (d := 16) ⟨⟨⟨0, .data⟩, by simp, rfl, by kernel_rfl⟩, by kernel_rfl⟩ hd
      obtain ⟨h1, ⟨u, a1, n1, c1, x1, y1, h2, h3⟩, h4, h5⟩ := hJ
      have z0 : W.cell? ⟨w.heap.size, 0, none⟩ = some (.bool u) := h2.cell 0
      have z1 : W.cell? ⟨w.heap.size, 1, none⟩ = some (.slice a1 n1 c1) := h2.cell 1
      have z2 : W.cell? ⟨w.heap.size, 2, none⟩ = some (.int .i64 x1) := h2.cell 2
      have z3 : W.cell? ⟨w.heap.size, 3, none⟩ = some (.int .i64 y1) := h2.cell 3
      have zf := fun j => h2.frozen j
      have zl := h2.lt
      have hch : Chg (fun b => b = w.heap.size) W (Zw W w.heap.size (.bool on) (.slice sa sn sc) (.int .i64 lo) (.int .i64 hi)) := chg1 (chg1 (chg1 (chg1 (Chg.refl _ _) _) _) _) _
      refine op_skip (w' := Zw W w.heap.size (.bool on) (.slice sa sn sc) (.int .i64 lo) (.int .i64 hi)) ?_ ⟨_, rfl, trivial, ⟨grew_zw h1 (Nat.le_refl _) _ _ _ _, ⟨on, sa, sn, sc, lo, hi, (((h2.set_ 0 _).set_ 1 _).set_ 2 _).set_ 3 _, h5.zw (by omega) _ _ _ _⟩, h4.chg hch (by omega), h5.zw (by omega) _ _ _ _⟩, (hr.chgS h2 (by omega) hch).mono (by omega), ⟨hch.os, hch.tape, hch.output, hch.size, fun k hk hn => hch.block k hk (fun e => hn (.inr e))⟩⟩
      simp only [execOp, e0, e1]
      simp [go_sem, z0, z1, z2, z3, zf]
    · exact ds_assign 18 2 rfl ⟨⟨⟨2, .data⟩, by simp, rfl, by kernel_rfl⟩, by kernel_rfl⟩ (fun _ _ h => h)
    · exact ds_assign 20 4 rfl ⟨⟨⟨4, .data⟩, by simp, rfl, by kernel_rfl⟩, by kernel_rfl⟩ (fun _ _ h => h)
    · rintro vs w5 hJ5 hr5 hR
      obtain ⟨a6, c6, v6, e6, o6, _⟩ : IsRow B FF w5 (vs 6) := hR 6 3 (by kernel_rfl)
      obtain ⟨a7, c7, v7, e7, o7, _⟩ : IsRow B FF w5 (vs 7) := hR 7 4 (by kernel_rfl)
      obtain ⟨hg, ⟨u, a1, n1, c1, x1, y1, h2, h3⟩, _, _⟩ := hJ5
      have z0 : w5.cell? ⟨w.heap.size, 0, none⟩ = some (.bool u) := h2.cell 0
      have z1 : w5.cell? ⟨w.heap.size, 1, none⟩ = some (.slice a1 n1 c1) := h2.cell 1
      have z2 : w5.cell? ⟨w.heap.size, 2, none⟩ = some (.int .i64 x1) := h2.cell 2
      have z3 : w5.cell? ⟨w.heap.size, 3, none⟩ = some (.int .i64 y1) := h2.cell 3
      have HF := Lib.hid (And.intro hg (And.intro h3 (And.intro (owns_rd o6) (owns_rd o7))))
      clear hR hr5 hJ0 hJC hFl hBW hFF hPP hg h2 h3 o6 o7
      simp only [putAll, Act.put, List.setIfInBounds_toArray, List.set_cons_zero, List.set_cons_succ]
      go_wp2
      refine bodyPost_ret (by simp [results, Try.results20, go_sem, z0, z1, z2, z3]; try rfl) rfl ?_
      exact ⟨_, _, _, _, _, _, a6, 4, c6, v6, a7, 4, c7, v7, by rw [show vs 6 = _ from e6, show vs 7 = _ from e7], HF.out.2.1.mono (Nat.zero_le _), HF.out.2.2.1, HF.out.2.2.2, by omega, by omega, HF.out.1⟩
  · have hne : ∀ p, sa = some p → p.block ≠ g := fun p hp e => by
      obtain ⟨_, _, ⟨_, h⟩ | ⟨t, h, ht, _⟩⟩ := S3.out
      · rw [h] at hp
        cases hp
      · rw [h] at hp
        cases hp
        simp only at e
        omega
    have CP := Lib.hid (pointG (c := sc) R3.out (by omega) X3.out HXL.out hne hok)
    obtain ⟨d0, d1, d2, d3⟩ : S4 b5 on sa sn sc lo hi w3 := S4.of B3.out
    clear hne hok
    go_wp2_with fail
    refine Calls.mono CP.out ?_
    rintro e w4 ⟨a1, c1, a2, c2, rfl, ⟨vs, ho1⟩, ⟨cs, ho2⟩, h12, hr4, hc4⟩
    have HO4 := Lib.hid (owns_mono ho1 hB3)
    have HP4 := Lib.hid (owns_mono ho2 hB3)
    have H12 := Lib.hid h12
    have HB4 := Lib.hid (B3.out.chg hc4 n5)
    have HS4 := Lib.hid (S3.out.chgG hc4 hgB)
    have HZ4 := Lib.hid (Z3.out.chg hc4 ngz)
    have HG4 := Lib.hid (show Grew w w4 from G3.out.trans (hc4.belowB G3.out.size (fun k hk => by omega)))
    have HR4 := Lib.hid hr4
    clear ho1 ho2 h12 hr4 hc4 d0 d1 d2 d3 CP HXL X3 B3 S3 Z3 G3 R3 C3
    go_wp2_with fail
    refine Calls.mono (oddG (k := 4) HR4.out (by omega) (by omega)) ?_
    rintro e w5 ⟨v, rfl, ⟨o, rfl⟩, hr5, hc5⟩
    have HO5 := Lib.hid (owns_chg HO4.out hc5 (fun b hb e => by have := (HO4.out.lt b hb).1; omega))
    have HP5 := Lib.hid (owns_chg HP4.out hc5 (fun b hb e => by have := (HP4.out.lt b hb).1; omega))
    have HB5 := Lib.hid (HB4.out.chg hc5 n5)
    have HS5 := Lib.hid (HS4.out.chgG hc5 hgB)
    have HZ5 := Lib.hid (HZ4.out.chg hc5 ngz)
    have HG5 := Lib.hid (show Grew w w5 from HG4.out.trans (hc5.belowB HG4.out.size (fun k hk => by omega)))
    have HR5 := Lib.hid hr5
    clear hr5 hc5 HR4 HO4 HP4 HB4 HS4 HZ4 HG4
    cases o
    · have HV5 := Lib.hid (owns_rd HO5.out)
      have HC5 := Lib.hid (owns_rd HP5.out)
      have hv5 := own_ge HO5.out
      have hc5 := own_ge HP5.out
      obtain ⟨d0, d1, d2, d3⟩ : S4 b5 on sa sn sc lo hi w5 := S4.of HB5.out
      have z0 : w5.cell? ⟨w.heap.size, 0, none⟩ = some (.bool false) := HZ5.out.cell 0
      have z1 : w5.cell? ⟨w.heap.size, 1, none⟩ = some (.slice none 0 0) := HZ5.out.cell 1
      have z2 : w5.cell? ⟨w.heap.size, 2, none⟩ = some (.int .i64 0) := HZ5.out.cell 2
      have z3 : w5.cell? ⟨w.heap.size, 3, none⟩ = some (.int .i64 0) := HZ5.out.cell 3
      have zf := fun j => HZ5.out.frozen j
      have zl := HZ5.out.lt
      go_wp2
      refine bodyPost_ret (by simp [results, Try.results20, go_sem, z0, z1, z2, z3, zl]; try rfl) rfl ?_
      refine ⟨_, _, _, _, _, _, a1, 4, c1, vs, a2, 4, c2, cs, rfl, (HS5.out.zw (by omega) _ _ _ _).mono (Nat.zero_le _), rd_zw HV5.out (fun x hx => by have := hv5 x hx; omega) _ _ _ _, rd_zw HC5.out (fun x hx => by have := hc5 x hx; omega) _ _ _ _, by omega, by omega, grew_zw HG5.out (Nat.le_refl _) _ _ _ _⟩
    go_wp2_with fail
    refine Calls.mono (pickG (k := 4) HR5.out (by omega) (by omega)) ?_
    rintro e w6 ⟨v, rfl, ⟨q, rfl, hq⟩, hr6, hc6⟩
    have hq := hq (by omega)
    have HO6 := Lib.hid (owns_chg HO5.out hc6 (fun b hb e => by have := (HO5.out.lt b hb).1; omega))
    have HP6 := Lib.hid (owns_chg HP5.out hc6 (fun b hb e => by have := (HP5.out.lt b hb).1; omega))
    have HB6 := Lib.hid (HB5.out.chg hc6 n5)
    have HS6 := Lib.hid (HS5.out.chgG hc6 hgB)
    have HZ6 := Lib.hid (HZ5.out.chg hc6 ngz)
    have HG6 := Lib.hid (show Grew w w6 from HG5.out.trans (hc6.belowB HG5.out.size (fun k hk => by omega)))
    have HR6 := Lib.hid hr6
    clear hr6 hc6 HR5 HO5 HP5 HB5 HS5 HZ5 HG5
    have hq4 : q = 0 ∨ q = 1 ∨ q = 2 ∨ q = 3 := by omega
    rcases hq4 with rfl | rfl | rfl | rfl
    · go_wp2_with fail
      refine Calls.mono (pickG (k := 4) HR6.out (by omega) (by omega)) ?_
      rintro e w7 ⟨v, rfl, ⟨j, rfl, hj⟩, hr7, hc7⟩
      have hj := hj (by omega)
      have hj4 : j < 4 := by omega
      have HO7 := Lib.hid (owns_chg HO6.out hc7 (fun b hb e => by have := (HO6.out.lt b hb).1; omega))
      have HP7 := Lib.hid (owns_chg HP6.out hc7 (fun b hb e => by have := (HP6.out.lt b hb).1; omega))
      have HB7 := Lib.hid (HB6.out.chg hc7 n5)
      have HS7 := Lib.hid (HS6.out.chgG hc7 hgB)
      have HZ7 := Lib.hid (HZ6.out.chg hc7 ngz)
      have HG7 := Lib.hid (show Grew w w7 from HG6.out.trans (hc7.belowB HG6.out.size (fun k hk => by omega)))
      have HR7 := Lib.hid hr7
      clear hr7 hc7 HR6 HO6 HP6 HB6 HS6 HZ6 HG6
      go_wp2_with fail
      refine Calls.mono (rawG HR7.out (by omega)) ?_
      rintro e w8 ⟨v, rfl, ⟨z, rfl⟩, hr8, hc8⟩
      have HO8 := Lib.hid (owns_chg HO7.out hc8 (fun b hb e => by have := (HO7.out.lt b hb).1; omega))
      have HP8 := Lib.hid (owns_chg HP7.out hc8 (fun b hb e => by have := (HP7.out.lt b hb).1; omega))
      have HB8 := Lib.hid (HB7.out.chg hc8 n5)
      have HS8 := Lib.hid (HS7.out.chgG hc8 hgB)
      have HZ8 := Lib.hid (HZ7.out.chg hc8 ngz)
      have HG8 := Lib.hid (show Grew w w8 from HG7.out.trans (hc8.belowB HG7.out.size (fun k hk => by omega)))
      clear hr8 hc8 HR7 HO7 HP7 HB7 HS7 HZ7 HG7
      obtain ⟨t1, cur, rfl, ht1, h41, hbc⟩ := own_b HO8.out
      obtain ⟨b', off', x0, e0, _, x1⟩ := (owns_rd HO8.out).at1 hj4
      cases e0
      rw [Nat.zero_add] at x1
      have xf := fun i => hbc.frozen i
      have xl := hbc.lt
      have n15 : t1 ≠ b5 := fun e => by
        subst e
        have := blk_type hbc HB8.out
        revert this
        decide
      have hjn : (j : Int) < 4 := hj
      have HBC := Lib.hid hbc
      have n1o : ∀ x, a2 = some x → x.block ≠ t1 := fun x hx e => H12.out t1 (by rfl) (by rw [← e]; exact own_blkB HP8.out hx)
      go_upto_region 15 with fail
      refine wp_let_c ?_
      intro E9 hE9
      have HB9 : Hid (Blk E9 b5 34 #[.bool on, .slice sa sn sc, .int .i64 lo, .int .i64 hi]) := Lib.hid (by rw [hE9]; exact HB8.out.far (fun e => n15 e.symm) _)
      have HZ9 : Hid (Blk E9 w.heap.size 34 Zs) := Lib.hid (by rw [hE9]; exact HZ8.out.far (by first | omega | (simp only; omega)) _)
      have HS9 := Lib.hid (show StD E9 B sa sn sc from by rw [hE9]; exact HS8.out.farI HBC.out _)
      have HG9 := Lib.hid (show Grew w E9 from by rw [hE9]; exact grew_set HG8.out (by first | omega | (simp only; omega)) _)
      have HX9 : Hid (Rd E9 (some ⟨t1, 0, none⟩) 4 1 (ints .i64 (vs.set j z))) := Lib.hid (by
        rw [hE9]
        have := rd_setI (owns_rd HO8.out) hj4 z
        rw [Nat.zero_add] at this
        exact this)
      have HY9 : Hid (Rd E9 a2 4 1 (ints .i64 cs)) := Lib.hid (by
        rw [hE9]
        exact (owns_rd HP8.out).chg (chg1 (Chg.refl _ _) _ : Chg (fun b => b = t1) w8 (w8.setCell ⟨t1, j, none⟩ (.int .i64 z))) (fun x hx e => n1o x hx e))
      have hx9 := own_ge HO8.out
      have hy9 := own_ge HP8.out
      clear hE9 hbc x1 xf xl HBC HB8 HZ8 HS8 HG8 HO8 HP8
      have HV9 := HX9
      have HC9 := HY9
      have hv9 := hx9
      have hc9 := hy9
      obtain ⟨d0, d1, d2, d3⟩ : S4 b5 on sa sn sc lo hi E9 := S4.of HB9.out
      have z0 : E9.cell? ⟨w.heap.size, 0, none⟩ = some (.bool false) := HZ9.out.cell 0
      have z1 : E9.cell? ⟨w.heap.size, 1, none⟩ = some (.slice none 0 0) := HZ9.out.cell 1
      have z2 : E9.cell? ⟨w.heap.size, 2, none⟩ = some (.int .i64 0) := HZ9.out.cell 2
      have z3 : E9.cell? ⟨w.heap.size, 3, none⟩ = some (.int .i64 0) := HZ9.out.cell 3
      have zf := fun j => HZ9.out.frozen j
      have zl := HZ9.out.lt
      go_wp2
      refine bodyPost_ret (by simp [results, Try.results20, go_sem, z0, z1, z2, z3, zl]; try rfl) rfl ?_
      refine ⟨_, _, _, _, _, _, (some ⟨t1, 0, none⟩), 4, c1, (vs.set j z), a2, 4, c2, cs, rfl, (HS9.out.zw (by omega) _ _ _ _).mono (Nat.zero_le _), rd_zw HV9.out (fun x hx => by have := hv9 x hx; omega) _ _ _ _, rd_zw HC9.out (fun x hx => by have := hc9 x hx; omega) _ _ _ _, by omega, by omega, grew_zw HG9.out (Nat.le_refl _) _ _ _ _⟩
    · go_wp2_with fail
      refine Calls.mono (pickG (k := 4) HR6.out (by omega) (by omega)) ?_
      rintro e w7 ⟨v, rfl, ⟨j, rfl, hj⟩, hr7, hc7⟩
      have hj := hj (by omega)
      have hj4 : j < 4 := by omega
      have HO7 := Lib.hid (owns_chg HO6.out hc7 (fun b hb e => by have := (HO6.out.lt b hb).1; omega))
      have HP7 := Lib.hid (owns_chg HP6.out hc7 (fun b hb e => by have := (HP6.out.lt b hb).1; omega))
      have HB7 := Lib.hid (HB6.out.chg hc7 n5)
      have HS7 := Lib.hid (HS6.out.chgG hc7 hgB)
      have HZ7 := Lib.hid (HZ6.out.chg hc7 ngz)
      have HG7 := Lib.hid (show Grew w w7 from HG6.out.trans (hc7.belowB HG6.out.size (fun k hk => by omega)))
      have HR7 := Lib.hid hr7
      clear hr7 hc7 HR6 HO6 HP6 HB6 HS6 HZ6 HG6
      go_wp2_with fail
      refine Calls.mono (rawG HR7.out (by omega)) ?_
      rintro e w8 ⟨v, rfl, ⟨z, rfl⟩, hr8, hc8⟩
      have HO8 := Lib.hid (owns_chg HO7.out hc8 (fun b hb e => by have := (HO7.out.lt b hb).1; omega))
      have HP8 := Lib.hid (owns_chg HP7.out hc8 (fun b hb e => by have := (HP7.out.lt b hb).1; omega))
      have HB8 := Lib.hid (HB7.out.chg hc8 n5)
      have HS8 := Lib.hid (HS7.out.chgG hc8 hgB)
      have HZ8 := Lib.hid (HZ7.out.chg hc8 ngz)
      have HG8 := Lib.hid (show Grew w w8 from HG7.out.trans (hc8.belowB HG7.out.size (fun k hk => by omega)))
      clear hr8 hc8 HR7 HO7 HP7 HB7 HS7 HZ7 HG7
      obtain ⟨t1, cur, rfl, ht1, h41, hbc⟩ := own_b HP8.out
      obtain ⟨b', off', x0, e0, _, x1⟩ := (owns_rd HP8.out).at1 hj4
      cases e0
      rw [Nat.zero_add] at x1
      have xf := fun i => hbc.frozen i
      have xl := hbc.lt
      have n15 : t1 ≠ b5 := fun e => by
        subst e
        have := blk_type hbc HB8.out
        revert this
        decide
      have hjn : (j : Int) < 4 := hj
      have HBC := Lib.hid hbc
      have n1o : ∀ x, a1 = some x → x.block ≠ t1 := fun x hx e => H12.out x.block (own_blkB HO8.out hx) (by rw [e]; rfl)
      go_upto_region 15 with fail
      refine wp_let_c ?_
      intro E9 hE9
      have HB9 : Hid (Blk E9 b5 34 #[.bool on, .slice sa sn sc, .int .i64 lo, .int .i64 hi]) := Lib.hid (by rw [hE9]; exact HB8.out.far (fun e => n15 e.symm) _)
      have HZ9 : Hid (Blk E9 w.heap.size 34 Zs) := Lib.hid (by rw [hE9]; exact HZ8.out.far (by first | omega | (simp only; omega)) _)
      have HS9 := Lib.hid (show StD E9 B sa sn sc from by rw [hE9]; exact HS8.out.farI HBC.out _)
      have HG9 := Lib.hid (show Grew w E9 from by rw [hE9]; exact grew_set HG8.out (by first | omega | (simp only; omega)) _)
      have HX9 : Hid (Rd E9 (some ⟨t1, 0, none⟩) 4 1 (ints .i64 (cs.set j z))) := Lib.hid (by
        rw [hE9]
        have := rd_setI (owns_rd HP8.out) hj4 z
        rw [Nat.zero_add] at this
        exact this)
      have HY9 : Hid (Rd E9 a1 4 1 (ints .i64 vs)) := Lib.hid (by
        rw [hE9]
        exact (owns_rd HO8.out).chg (chg1 (Chg.refl _ _) _ : Chg (fun b => b = t1) w8 (w8.setCell ⟨t1, j, none⟩ (.int .i64 z))) (fun x hx e => n1o x hx e))
      have hx9 := own_ge HP8.out
      have hy9 := own_ge HO8.out
      clear hE9 hbc x1 xf xl HBC HB8 HZ8 HS8 HG8 HO8 HP8
      have HV9 := HY9
      have HC9 := HX9
      have hv9 := hy9
      have hc9 := hx9
      obtain ⟨d0, d1, d2, d3⟩ : S4 b5 on sa sn sc lo hi E9 := S4.of HB9.out
      have z0 : E9.cell? ⟨w.heap.size, 0, none⟩ = some (.bool false) := HZ9.out.cell 0
      have z1 : E9.cell? ⟨w.heap.size, 1, none⟩ = some (.slice none 0 0) := HZ9.out.cell 1
      have z2 : E9.cell? ⟨w.heap.size, 2, none⟩ = some (.int .i64 0) := HZ9.out.cell 2
      have z3 : E9.cell? ⟨w.heap.size, 3, none⟩ = some (.int .i64 0) := HZ9.out.cell 3
      have zf := fun j => HZ9.out.frozen j
      have zl := HZ9.out.lt
      go_wp2
      refine bodyPost_ret (by simp [results, Try.results20, go_sem, z0, z1, z2, z3, zl]; try rfl) rfl ?_
      refine ⟨_, _, _, _, _, _, a1, 4, c1, vs, (some ⟨t1, 0, none⟩), 4, c2, (cs.set j z), rfl, (HS9.out.zw (by omega) _ _ _ _).mono (Nat.zero_le _), rd_zw HV9.out (fun x hx => by have := hv9 x hx; omega) _ _ _ _, rd_zw HC9.out (fun x hx => by have := hc9 x hx; omega) _ _ _ _, by omega, by omega, grew_zw HG9.out (Nat.le_refl _) _ _ _ _⟩
    · obtain ⟨a7, c7, w7, hrun, ho7, hc7, _⟩ := appInt 0 HO6.out (by omega) (Nat.le_trans hBb (Nat.le_of_lt HB6.out.lt))
      have HRun := Lib.hid hrun
      have HB7 := Lib.hid (HB6.out.chg hc7 (blk_ne HB6.out HO6.out (by decide)))
      have HZ7 := Lib.hid (HZ6.out.chg hc7 (fun e => by have := (HO6.out.lt _ e).1; omega))
      have HS7 := Lib.hid (HS6.out.own HO6.out hc7)
      have HG7 := Lib.hid (show Grew w w7 from HG6.out.trans (hc7.belowB HG6.out.size (fun k hk => by have := (HO6.out.lt _ hk).1; omega)))
      have HV7 := Lib.hid (owns_rd ho7)
      have hv7 := own_ge ho7
      have HC7 := Lib.hid (owns_rd (owns_chg HP6.out hc7 (fun b hb e => H12.out b e hb)))
      clear hc7
      have hc7 := own_ge HP6.out
      clear hrun ho7 HO6 HP6 HB6 HS6 HZ6 HG6
      obtain ⟨d0, d1, d2, d3⟩ : S4 b5 on sa sn sc lo hi w7 := S4.of HB7.out
      have z0 : w7.cell? ⟨w.heap.size, 0, none⟩ = some (.bool false) := HZ7.out.cell 0
      have z1 : w7.cell? ⟨w.heap.size, 1, none⟩ = some (.slice none 0 0) := HZ7.out.cell 1
      have z2 : w7.cell? ⟨w.heap.size, 2, none⟩ = some (.int .i64 0) := HZ7.out.cell 2
      have z3 : w7.cell? ⟨w.heap.size, 3, none⟩ = some (.int .i64 0) := HZ7.out.cell 3
      have zf := fun j => HZ7.out.frozen j
      have zl := HZ7.out.lt
      go_wp2_with (at_builtin; refine wpList_append_run rfl _ _ rfl rfl rfl rfl HRun.out ?_; clear HRun)
      refine bodyPost_ret (by simp [results, Try.results20, go_sem, z0, z1, z2, z3, zl]; try rfl) rfl ?_
      refine ⟨_, _, _, _, _, _, a7, 5, c7, (vs ++ [0]), a2, 4, c2, cs, rfl, (HS7.out.zw (by omega) _ _ _ _).mono (Nat.zero_le _), rd_zw HV7.out (fun x hx => by have := hv7 x hx; omega) _ _ _ _, rd_zw HC7.out (fun x hx => by have := hc7 x hx; omega) _ _ _ _, by omega, by omega, grew_zw HG7.out (Nat.le_refl _) _ _ _ _⟩
    · obtain ⟨t2, cur, rfl, ht2, h42, _⟩ := own_b HP6.out
      have hl2 := HP6.out
      have HV6 := Lib.hid (owns_rd HO6.out)
      have hv6 := own_ge HO6.out
      have hc6 := own_ge HP6.out
      have HC6 : Hid (Rd w6 (some ⟨t2, 0, none⟩) 3 1 (ints .i64 (cs.take 3))) := Lib.hid (by
        have := (owns_rd HP6.out).sub 0 3 (by omega)
        simpa using this)
      have nc3 : ¬ c2 = 3 := by omega
      clear hl2
      obtain ⟨d0, d1, d2, d3⟩ : S4 b5 on sa sn sc lo hi w6 := S4.of HB6.out
      have z0 : w6.cell? ⟨w.heap.size, 0, none⟩ = some (.bool false) := HZ6.out.cell 0
      have z1 : w6.cell? ⟨w.heap.size, 1, none⟩ = some (.slice none 0 0) := HZ6.out.cell 1
      have z2 : w6.cell? ⟨w.heap.size, 2, none⟩ = some (.int .i64 0) := HZ6.out.cell 2
      have z3 : w6.cell? ⟨w.heap.size, 3, none⟩ = some (.int .i64 0) := HZ6.out.cell 3
      have zf := fun j => HZ6.out.frozen j
      have zl := HZ6.out.lt
      go_wp2
      refine bodyPost_ret (by simp [results, Try.results20, go_sem, z0, z1, z2, z3, zl]; try rfl) rfl ?_
      refine ⟨_, _, _, _, _, _, a1, 4, c1, vs, (some ⟨t2, 0, none⟩), 3, c2, (cs.take 3), rfl, (HS6.out.zw (by omega) _ _ _ _).mono (Nat.zero_le _), rd_zw HV6.out (fun x hx => by have := hv6 x hx; omega) _ _ _ _, rd_zw HC6.out (fun x hx => by have := hc6 x hx; omega) _ _ _ _, by omega, by omega, grew_zw HG6.out (Nat.le_refl _) _ _ _ _⟩
end Go.Proofs.Ytnjoofpllhbccaa
