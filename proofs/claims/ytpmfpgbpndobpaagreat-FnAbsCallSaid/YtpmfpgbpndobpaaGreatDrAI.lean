/- Lemmas and walks of this proof, some texts one behind the other. No condition. -/
import Derived.Test.YtpmfpgbpndobpaaGreatHas4
import Derived.Test.YtpmfpgbpndobpaaGreatDrWi
import Derived.Test.YtpmfpgbpndobpaaGreatSums
set_option linter.unusedSimpArgs false
set_option linter.unusedVariables false
/- Whether a state has variables and cells: both sides. No condition. -/
namespace Go.Proofs.YtpmfpgbpndobpaaGreat
open Go.RowKit
set_option linter.unusedVariables false
set_option linter.unusedSimpArgs false
attribute [local go_sem] ext_cell ext_frozen ext_lt ext_le ext_le1 lt_s2 lt_s3 lt_s4 lt_s5 lt_s6 ext_lt1 ext_lt2 ext_lt3

def inP (p : Itv × Int) : Bool := inB p.1.lo p.1.hi p.2
/-- Whether a state has these variables and cells. -/
def hasB (on : Bool) (xs : List Itv) (lo hi : Int) (vs cs : List Int) : Bool := (stOkB on xs lo hi && on) && (decide (vs.length = 4) && decide (cs.length = 4)) && ((xs.zip vs).all inP && cs.all (inB lo hi))
theorem wp_letH {P : Program} {c : Code} {Q : Exit → Act → World → Prop} {a : Act} {W : World} (h : ∀ E, E = W → c.wp P Q a E) : c.wp P Q a W := h W rfl
theorem four_ints {vs : List Int} (h : vs.length = 4) : ∃ v0 v1 v2 v3, vs = [v0, v1, v2, v3] := by
  match vs, h with
  | [v0, v1, v2, v3], _ => exact ⟨v0, v1, v2, v3, rfl⟩

set_option maxHeartbeats 2000000 in
theorem implAbsHas (on : Bool) (a : Option Addr) (n c : Nat) (xs : List Itv) (lo hi : Int) (va : Option Addr) (vn vc : Nat) (vs : List Int) (ca : Option Addr) (cn cc : Nat) (cs : List Int) (w : World) (hr : RdL EItv 2 w a n xs) (hn : n ≤ 9223372036854775807) (hc : n ≤ c)
    (hv : Rd w va vn 1 (ints .i64 vs)) (hz : Rd w ca cn 1 (ints .i64 cs)) :
    Calls Tryz.prog 16 #[.agg #[.bool on, .slice a n c, .int .i64 lo, .int .i64 hi], .slice va vn vc, .slice ca cn cc] w fun e w' => e = .returned (.bool (hasB on xs lo hi vs cs)) ∧ Grew w w' := by
  have hvl := hv.len1
  have hzl := hz.len1
  by_cases hcase : (stOkB on xs lo hi && on) = true ∧ vs.length = 4 ∧ cs.length = 4
  · obtain ⟨h1, h2, h3⟩ := hcase
    rw [Bool.and_eq_true] at h1
    obtain ⟨h1, rfl⟩ := h1
    obtain ⟨hi1, x0, x1, x2, x3, rfl, b0, b1, b2, b3⟩ := st_four h1
    obtain rfl : 4 = n := hr.len
    obtain ⟨v0, v1, v2, v3, rfl⟩ := four_ints h2
    obtain rfl : vn = 4 := by simpa using hvl.symm
    obtain rfl : cn = 4 := by omega
    refine (implAbsHas4 a c x0 x1 x2 x3 lo hi va vc v0 v1 v2 v3 ca cc cs w hr hi1 (by simp [b0, b1, b2, b3]) hc hv hz).mono ?_
    rintro e w' ⟨rfl, g⟩
    refine ⟨?_, g⟩
    rw [hasB, h1, h3]
    simp [inP, Bool.and_assoc]
  · have HV : Hid (hasB on xs lo hi vs cs = false) := Lib.hid (by
      rw [Bool.eq_false_iff]
      intro h
      simp only [hasB, Bool.and_eq_true, decide_eq_true_eq] at h
      exact hcase ⟨by rw [Bool.and_eq_true]; exact h.1.1, h.1.2.1, h.1.2.2⟩)
    have HC := Lib.hid (fun W (h : Grew w W) => implReadState on a n c xs lo hi W (hr.grew staysItv h) hn hc)
    obtain ⟨B, hB⟩ : ∃ B, stOkB on xs lo hi = B := ⟨_, rfl⟩
    have hca : (B && on) = true → vs.length = 4 → cs.length = 4 → False := fun h1 h2 h3 => hcase ⟨by rw [hB]; exact h1, h2, h3⟩
    have HCa := Lib.hid hca
    have HBe := Lib.hid hB
    clear hr hv hz hcase hca hB
    go_enter Tryz.func16, Tryz.ntmps16
    go_wp2_with fail
    refine (HC.out _ (gr)).mono ?_
    rintro e w1 ⟨g1, ⟨h, rfl⟩ | ⟨h, b, rfl, h1, h2⟩⟩
    · have HG := Lib.hid (show Grew w w1 from grew_tr (gr) g1)
      rw [HBe.out]
      clear g1 h
      cases B
      all_goals
        go_wp2
        go_ret
        rw [HV.out]
        refine ⟨rfl, ?_⟩
        have hg := HG.out
        exact gr
    · have HG := Lib.hid (show Grew w w1 from grew_tr (gr) g1)
      rw [HBe.out] at h
      have HH := Lib.hid h
      clear g1 h h1 h2
      by_cases hv4 : vn = 4
      · have hc4 : ¬ cn = 4 := fun e => HCa.out HH.out (by omega) (by omega)
        have hb : ((cn : Int) != 4) = true := by simp; omega
        have hb2 : (cn != 4) = true := by simp; omega
        subst hv4
        go_wp2
        go_ret
        rw [HV.out]
        refine ⟨rfl, ?_⟩
        have hg := HG.out
        exact gr
      · have hb : ((vn : Int) != 4) = true := by simp; omega
        have hb2 : (vn != 4) = true := by simp; omega
        go_wp2
        go_ret
        rw [HV.out]
        refine ⟨rfl, ?_⟩
        have hg := HG.out
        exact gr
set_option maxHeartbeats 2000000 in
theorem specAbsOk (on : Bool) (a : Option Addr) (n c : Nat) (xs : List Itv) (lo hi : Int) (w : World) (hr : RdL EItv 2 w a n xs) (hn : n ≤ 9223372036854775807) :
    Calls Tryz.prog 9 #[.agg #[.bool on, .slice a n c, .int .i64 lo, .int .i64 hi]] w fun e w' => e = .returned (.bool (stOkB on xs lo hi)) ∧ Grew w w' := by
  have hl := hr.len
  cases on
  · have C := fun w => specL7None ⟨lo, hi⟩ w
    simp only at C
    have HC := Lib.hid C
    clear C
    by_cases hn0 : n = 0
    · have HV : Hid (stOkB false xs lo hi = (decide (lo = 0) && decide (hi = 0))) := Lib.hid (by
        have : xs = [] := List.eq_nil_of_length_eq_zero (by omega)
        subst this
        simp [stOkB])
      clear hr hl
      subst hn0
      go_enter Tryz.func9, Tryz.ntmps9
      go_wp2_with ((with_reducible refine (HC.out _).mono ?_); rintro e w' ⟨rfl, g'⟩; (first | obtain ⟨y, rfl⟩ := ext_cold g' | obtain ⟨y, rfl⟩ := ext_col g' | obtain ⟨y, rfl⟩ := ext_of g'); clear g')
      go_ret
      rw [HV.out]
      refine ⟨rfl, ?_⟩
      exact gr
    · have HV : Hid (stOkB false xs lo hi = false) := Lib.hid (by
        rw [stOkB, if_neg (by simp), decide_eq_false (show ¬ xs.length = 0 by omega)]
        rfl)
      have hn1 : ((n : Int) == 0) = false := by simp; omega
      have hn2 : (n == 0) = false := by simp; omega
      clear hr hl HC
      go_enter Tryz.func9, Tryz.ntmps9
      go_wp2
      go_ret
      rw [HV.out]
      refine ⟨rfl, ?_⟩
      exact gr
  · have HO := Lib.hid (fun x w => specItvOk x w)
    have C := fun w => specItvOk ⟨lo, hi⟩ w
    simp only at C
    obtain ⟨B1, hB1⟩ : ∃ B, itvOkB lo hi = B := ⟨_, rfl⟩
    rw [hB1] at C
    have HB1 := Lib.hid hB1
    have HC := Lib.hid C
    have HR := Lib.hid hr
    clear C hB1 hr
    by_cases h4 : n = 4
    · subst h4
      have HL := Lib.hid hl
      clear hl
      cases B1
      · have HV : Hid (stOkB true xs lo hi = false) := Lib.hid (by rw [stOkB, if_pos rfl, HB1.out]; simp)
        go_enter Tryz.func9, Tryz.ntmps9
        go_wp2_with ((with_reducible refine (HC.out _).mono ?_); rintro e w' ⟨rfl, g'⟩; (first | obtain ⟨y, rfl⟩ := ext_cold g' | obtain ⟨y, rfl⟩ := ext_col g' | obtain ⟨y, rfl⟩ := ext_of g'); clear g')
        go_ret
        rw [HV.out]
        refine ⟨rfl, ?_⟩
        exact gr
      · have HV : Hid (stOkB true xs lo hi = xs.all itvB) := Lib.hid (by rw [stOkB, if_pos rfl, HB1.out, HL.out]; simp)
        go_enter Tryz.func9, Tryz.ntmps9
        go_wp2_with ((with_reducible refine (HC.out _).mono ?_); rintro e w' ⟨rfl, g'⟩; (first | obtain ⟨y, rfl⟩ := ext_cold g' | obtain ⟨y, rfl⟩ := ext_col g' | obtain ⟨y, rfl⟩ := ext_of g'); clear g')
        refine wp_letH ?_
        intro E hE
        have GE : Grew w E := by rw [hE]; exact gr
        have q1 : E.cell? ⟨w.heap.size, 1, none⟩ = some (.slice a 4 c) := by rw [hE]; simp [go_sem]
        have l0 : w.heap.size < E.heap.size := by rw [hE]; have := ext_size _ y; simp only [World.size_alloc] at this; omega
        have HSO := Lib.hid (fun W (h : Grew E W) => (⟨(h.cell (p := ⟨w.heap.size, 1, none⟩) l0).trans q1, Nat.lt_of_lt_of_le l0 h.size⟩ : W.cell? ⟨w.heap.size, 1, none⟩ = some (.slice a 4 c) ∧ w.heap.size < W.heap.size))
        have HGE := Lib.hid GE
        clear hE q1 l0 GE HC
        go_loopw [3] (fun i wr => ∃ k : Nat, k ≤ 4 ∧ i = .int .i64 k ∧ Grew E wr ∧ ∀ x, x ∈ xs.take k → itvB x = true) (fun i _ => 4 - (intOf i).toNat)
        case atStart => exact ⟨0, Nat.zero_le _, rfl, Below.refl _ _, by simp⟩
        case round =>
          obtain ⟨k, hk, rfl, hg, hall⟩ := hrel
          obtain ⟨q1, l0⟩ := HSO.out _ hg
          have HG := Lib.hid hg
          have HA := Lib.hid hall
          clear hall
          by_cases hlt : k < 4
          · obtain ⟨b, off, xl, xh, rfl, hx, c0, c1, hb⟩ := rdItv_at (HR.out.grew staysItv (grew_tr HGE.out hg)) hlt
            have HX := Lib.hid hx
            have C := fun W => HO.out ⟨xl, xh⟩ W
            simp only at C
            clear hx hg
            cases hq : itvOkB xl xh
            · rw [hq] at C
              have HCk := Lib.hid C
              have HF : Hid (xs.all itvB = false) := Lib.hid (by rw [List.all_eq_false]; exact ⟨_, List.mem_of_getElem? HX.out, by simp [itvB, hq]⟩)
              clear C hq
              go_wp2_with ((with_reducible refine (HCk.out _).mono ?_); rintro e w' ⟨rfl, g'⟩; (first | obtain ⟨u, rfl⟩ := ext_cold g' | obtain ⟨u, rfl⟩ := ext_col g' | obtain ⟨u, rfl⟩ := ext_of g'); clear g')
              go_ret
              rw [HV.out, HF.out]
              refine ⟨rfl, ?_⟩
              have h1 := grew_tr HGE.out HG.out
              exact gr
            · rw [hq] at C
              have HCk := Lib.hid C
              have HQ := Lib.hid hq
              clear C hq
              go_wp2_with ((with_reducible refine (HCk.out _).mono ?_); rintro e w' ⟨rfl, g'⟩; (first | obtain ⟨u, rfl⟩ := ext_cold g' | obtain ⟨u, rfl⟩ := ext_col g' | obtain ⟨u, rfl⟩ := ext_of g'); clear g')
              have HG2 := Lib.hid (show Grew E (ext wr u) from grew_tr HG.out (gr))
              go_roundw
              case rel =>
                refine ⟨k + 1, by omega, by go_num, HG2.out, fun x hx => ?_⟩
                rw [take_get HX.out] at hx
                rcases List.mem_append.1 hx with hx | hx
                · exact HA.out x hx
                · rw [List.mem_singleton.1 hx]
                  exact HQ.out
              case measure => simp [intOf]; omega
          · obtain rfl : k = 4 := by omega
            have HF : Hid (xs.all itvB = true) := Lib.hid (by
              rw [List.all_eq_true]
              exact fun x hx => HA.out x (by rw [List.take_of_length_le (by rw [HL.out]; exact Nat.le_refl _)]; exact hx))
            clear hg
            go_wp2
            go_ret
            rw [HV.out, HF.out]
            exact ⟨rfl, grew_tr HGE.out HG.out⟩
    · have HV : Hid (stOkB true xs lo hi = false) := Lib.hid (by
        rw [stOkB, if_pos rfl, decide_eq_false (show ¬ xs.length = 4 by omega)]
        rfl)
      have hn1 : ((n : Int) != 4) = true := by simp; omega
      have hn2 : (n != 4) = true := by simp; omega
      clear hl
      go_enter Tryz.func9, Tryz.ntmps9
      go_wp2
      go_ret
      rw [HV.out]
      refine ⟨rfl, ?_⟩
      exact gr
end Go.Proofs.YtpmfpgbpndobpaaGreat

/- Whether a state has variables and cells: the reference's side. No condition. -/
namespace Go.Proofs.YtpmfpgbpndobpaaGreat
open Go.RowKit
set_option linter.unusedVariables false
set_option linter.unusedSimpArgs false
attribute [local go_sem] ext_cell ext_frozen ext_lt ext_le ext_le1 lt_s2 lt_s3 lt_s4 lt_s5 lt_s6 ext_lt1 ext_lt2 ext_lt3

theorem itvB_all {xs : List Itv} {lo hi : Int} (h : stOkB true xs lo hi = true) : ∀ x, x ∈ xs → itvB x = true := by
  obtain ⟨_, x0, x1, x2, x3, rfl, b0, b1, b2, b3⟩ := st_four h
  intro x hx
  simp only [List.mem_cons, List.not_mem_nil, or_false] at hx
  rcases hx with rfl | rfl | rfl | rfl <;> assumption
end Go.Proofs.YtpmfpgbpndobpaaGreat

/- The draw of variables and cells of a state. No condition. -/
namespace Go.Proofs.YtpmfpgbpndobpaaGreat
open Go.RowKit
set_option linter.unusedVariables false
set_option linter.unusedSimpArgs false
attribute [local go_sem] dg_cell dg_frozen dg_lt dg_lt1 dg_lt2 dg_ne dg_ne1 dg_ne2 dg_new dg_wen lt_s2 lt_s3 lt_s4 lt_s5 lt_s6

/-- One number is put behind a row. -/
theorem appInt {W : World} {B : Nat} {vs : List Int} {n : Nat} {a1 : Option Addr} {c1 : Nat} (z : Int) (h1 : W.ownsRow B 3 1 (.slice a1 n c1) n (ints .i64 vs)) (h2 : n ≤ 1048580) (h3 : B ≤ W.heap.size) :
    ∃ a2 c2 W2, (Builtin.append_ #[36, 36] 36 #[.slice a1 n c1, .slice (some ⟨W.heap.size, 0, none⟩) 1 1]).run Tryz.prog (W.alloc (.cells #[.int .i64 z] 3)) = .ok (.slice a2 (n + 1) c2) W2 ∧ W2.ownsRow B 3 1 (.slice a2 (n + 1) c2) (n + 1) (ints .i64 (vs ++ [z])) ∧ Chg (fun b => (Value.slice a1 n c1).ownBlock = some b) W W2 ∧ ((Value.slice a2 (n + 1) c2).ownBlock = (Value.slice a1 n c1).ownBlock ∨ (Value.slice a2 (n + 1) c2).ownBlock = some (W.heap.size + 1)) := by
  obtain ⟨v3, w3, hrun3, o3, g3, hv⟩ := owns_append_lit (P := Tryz.prog) W intEl h1 1 [.int .i64 z] rfl (by simp [Value.oneCell']) (by omega) (by omega) h3
  obtain ⟨a2, c2, rfl⟩ := owns_slice o3
  exact ⟨a2, c2, w3, hrun3, by rw [ints_append]; exact o3, Chg.of_grownBy g3, hv⟩
/-- A row that grows while numbers are drawn, beside another one. -/
structure Two (g : Nat) (wA : World) (P k : Nat) (v u : Value) (m : Nat) (wr : World) : Prop where
  ch : ChgG g wA wr
  rd : RdLe wr g P
  row : ∃ vs : List Int, wr.ownsRow wA.heap.size 3 1 v k (ints .i64 vs)
  oth : ∃ us : List Int, wr.ownsRow wA.heap.size 3 1 u m (ints .i64 us)
  ne : ∀ b, v.ownBlock = some b → u.ownBlock ≠ some b
theorem Two.cg {g P Q k m : Nat} {wA wr W : World} {v u : Value} (h : Two g wA P k v u m wr) (c : ChgG g wr W) (r : RdLe W g Q) (hg : g < wA.heap.size) : Two g wA Q k v u m W :=
  ⟨h.ch.trans c, r, by obtain ⟨vs, h⟩ := h.row; exact ⟨vs, owns_chg h c (fun b hb e => by have := (h.lt b hb).1; omega)⟩, by obtain ⟨vs, h⟩ := h.oth; exact ⟨vs, owns_chg h c (fun b hb e => by have := (h.lt b hb).1; omega)⟩, h.ne⟩
theorem Two.app {g P k m c1 : Nat} {wA W : World} {a1 : Option Addr} {u : Value} (h : Two g wA P k (.slice a1 k c1) u m W) (hg : g < wA.heap.size) (hk : k ≤ 1000) (z : Int) :
    ∃ a2 c2 W2, (Builtin.append_ #[36, 36] 36 #[.slice a1 k c1, .slice (some ⟨W.heap.size, 0, none⟩) 1 1]).run Tryz.prog (W.alloc (.cells #[.int .i64 z] 3)) = .ok (.slice a2 (k + 1) c2) W2 ∧ Two g wA P (k + 1) (.slice a2 (k + 1) c2) u m W2 := by
  obtain ⟨hch, hrd, ⟨vs, hrow⟩, ⟨us, hoth⟩, hne⟩ := h
  obtain ⟨a2, c2, W2, h1, h2, h3, h4⟩ := appInt z hrow (by omega) hch.size
  refine ⟨a2, c2, W2, h1, chg_own hch h3 (fun b hb => (hrow.lt b hb).1), rd_own hrd h3 (fun b hb => (hrow.lt b hb).1) hg, ⟨_, h2⟩, ⟨us, owns_chg hoth h3 (fun b hb e => hne b e hb)⟩, fun b hb e => ?_⟩
  rcases h4 with h4 | h4
  · rw [h4] at hb
    exact hne b hb e
  · rw [h4, Option.some.injEq] at hb
    have := (hoth.lt b e).2
    omega
theorem RowB.rd2 {t : Nat} {W : World} (h : RowB t W) {n : Nat} (hn : n ≤ 4) : ∃ xs : List Itv, xs.length = n ∧ Rd W (some ⟨t, 0, none⟩) n 2 (xs.flatMap Itv.cells) := by
  obtain ⟨arr, h, h4⟩ := h
  have hsz : 8 ≤ arr.size := by
    obtain ⟨y, hy⟩ := h4 7 (by omega)
    have := (Array.getElem?_eq_some_iff.1 hy).1
    omega
  obtain ⟨xs, hi1, hi2⟩ := itv_of_ints n (arr.toList.take (n * 2)) (by rw [List.length_take, Array.length_toList]; omega) (fun i hi => by
    obtain ⟨x, hx⟩ := h4 i (by omega)
    exact ⟨x, by rw [List.getElem?_take, if_pos hi]; simpa using hx⟩)
  exact ⟨xs, hi1, by rw [hi2, List.length_take, Array.length_toList]; omega, .inr ⟨t, 0, rfl, fun j u hu => by
    rw [Nat.zero_add]
    rw [hi2, List.getElem?_take] at hu
    split at hu
    · exact (h.cell j).trans (by simpa using hu)
    · cases hu⟩⟩
theorem rdl_itv {W : World} {a : Option Addr} {n : Nat} {xs : List Itv} (h : Rd W a n 2 (xs.flatMap Itv.cells)) (hl : xs.length = n) : RdL EItv 2 W a n xs := rdl_of_rd Itv.cells (by omega) itv_len hl h (fun x _ => rfl)
end Go.Proofs.YtpmfpgbpndobpaaGreat

/- The draw of two states. No condition. -/
namespace Go.Proofs.YtpmfpgbpndobpaaGreat
open Go.RowKit
set_option linter.unusedVariables false
set_option linter.unusedSimpArgs false
attribute [local go_sem] dg_cell dg_frozen dg_lt dg_lt1 dg_lt2 dg_ne dg_ne1 dg_ne2 dg_new dg_wen lt_s2 lt_s3 lt_s4 lt_s5 lt_s6

theorem StD.rd2 {W : World} {B n c : Nat} {a : Option Addr} (h : StD W B a n c) : ∃ xs : List Itv, xs.length = n ∧ Rd W a n 2 (xs.flatMap Itv.cells) := by
  obtain ⟨h1, h2, ⟨rfl, rfl⟩ | ⟨t, rfl, h4, h5⟩⟩ := h
  · exact ⟨[], rfl, rfl, .inl rfl⟩
  · exact h5.rd2 h2
theorem StD.chgG {W W' : World} {B n c g : Nat} {a : Option Addr} (h : StD W B a n c) (k : ChgG g W W') (hg : g < B) : StD W' B a n c := h.chg k (fun t _ hB e => by omega)
theorem StD.set {W : World} {B n c : Nat} {a : Option Addr} (h : StD W B a n c) {p : Addr} (hp : p.block < B) (u : Value) : StD (W.setCell p u) B a n c :=
  h.chg (⟨rfl, rfl, rfl, by simp, fun k hk hn => Below.heap_setCell W p u k hn⟩ : Chg (fun b => b = p.block) W (W.setCell p u)) (fun t _ hB e => by omega)
/-- Two states were drawn. -/
def RetAI (w : World) (e : Ending) (w' : World) : Prop := ∃ on a n c lo hi on' a' n' c' lo' hi', e = .returned (.tuple #[.agg #[.bool on, .slice a n c, .int .i64 lo, .int .i64 hi], .agg #[.bool on', .slice a' n' c', .int .i64 lo', .int .i64 hi']]) ∧ StD w' 0 a n c ∧ StD w' 0 a' n' c' ∧ Grew w w'
/-- The four cells of a state's box. -/
abbrev S4 (b : Nat) (on : Bool) (a : Option Addr) (n c : Nat) (lo hi : Int) (W : World) : Prop := W.cell? ⟨b, 0, none⟩ = some (.bool on) ∧ W.cell? ⟨b, 1, none⟩ = some (.slice a n c) ∧ W.cell? ⟨b, 2, none⟩ = some (.int .i64 lo) ∧ W.cell? ⟨b, 3, none⟩ = some (.int .i64 hi)
theorem S4.set {b n c : Nat} {on : Bool} {a : Option Addr} {lo hi : Int} {W : World} (h : S4 b on a n c lo hi W) {p : Addr} (hp : p.block ≠ b) (u : Value) : S4 b on a n c lo hi (W.setCell p u) :=
  ⟨(World.cell?_setCell_far _ _ _ _ hp).trans h.1, (World.cell?_setCell_far _ _ _ _ hp).trans h.2.1, (World.cell?_setCell_far _ _ _ _ hp).trans h.2.2.1, (World.cell?_setCell_far _ _ _ _ hp).trans h.2.2.2⟩
theorem S4.of {b n c : Nat} {on : Bool} {a : Option Addr} {lo hi : Int} {W : World} (h : Blk W b 33 #[.bool on, .slice a n c, .int .i64 lo, .int .i64 hi]) : S4 b on a n c lo hi W := ⟨h.cell 0, h.cell 1, h.cell 2, h.cell 3⟩
abbrev Zw (W : World) (b : Nat) (u0 u1 u2 u3 : Value) : World := (((W.setCell ⟨b, 0, none⟩ u0).setCell ⟨b, 1, none⟩ u1).setCell ⟨b, 2, none⟩ u2).setCell ⟨b, 3, none⟩ u3
theorem S4.zw {b n c z : Nat} {on : Bool} {a : Option Addr} {lo hi : Int} {W : World} (h : S4 b on a n c lo hi W) (hz : z ≠ b) (u0 u1 u2 u3 : Value) : S4 b on a n c lo hi (Zw W z u0 u1 u2 u3) := (((h.set hz _).set hz _).set hz _).set hz _
theorem StD.zw {W : World} {B n c z : Nat} {a : Option Addr} (h : StD W B a n c) (hz : z < B) (u0 u1 u2 u3 : Value) : StD (Zw W z u0 u1 u2 u3) B a n c := (((h.set hz _).set hz _).set hz _).set hz _
theorem grew_zw {w W : World} {z : Nat} (h : Grew w W) (hz : w.heap.size ≤ z) (u0 u1 u2 u3 : Value) : Grew w (Zw W z u0 u1 u2 u3) := grew_set (grew_set (grew_set (grew_set h hz _) hz _) hz _) hz _

set_option maxRecDepth 100000 in
set_option maxHeartbeats 400000 in
theorem drawAbsIn (a : Option Addr) (n cap : Nat) (zs : List Int) (w : World) (hr : Rd w a n 1 (ints .u8 zs)) (hz : Bs zs) (hc : n ≤ cap ∧ cap ≤ maxLen) :
    Calls Tryz.prog 17 #[.slice a n cap] w (RetAI w) := by
  have HR0 := Lib.hid (hr.grew (grew_al (grew_al (Below.refl _ w) (.cells Zs 33)) (.cells Zs 33))); clear hr
  have HZ := Lib.hid hz; clear hz
  go_enter Tryz.func17, Tryz.ntmps17
  go_wp2_with fail
  refine (l20Open _ _ _ _ _ HR0.out HZ.out hc).mono ?_
  rintro e w1 ⟨rfl, h1, h2⟩
  have hY1 := Lib.hid (show Blk w1 w.heap.size 33 Zs from ((Blk.new w _ _).alloc _).grew h2)
  have hZ1 := Lib.hid (show Blk w1 (w.heap.size + 1) 33 Zs from (by simpa only [World.size_alloc] using Blk.new (w.alloc (.cells Zs 33)) 33 Zs : Blk _ (w.heap.size + 1) _ _).grew h2)
  have G1 := Lib.hid (show Grew w w1 from grew_tr (grew_al (grew_al (Below.refl _ w) _) _) h2)
  obtain ⟨g, hg⟩ : ∃ g, w.heap.size + 1 + 1 = g := ⟨_, rfl⟩
  simp only [World.size_alloc, hg] at h1 ⊢
  have hgw : w.heap.size + 1 < g := by omega
  have ngy : ¬ w.heap.size = g := by omega
  have ngz : ¬ w.heap.size + 1 = g := by omega
  have lg := h1.lt
  have H1 := Lib.hid h1
  clear h1 h2 hg HR0 HZ
  go_wp2_with fail
  refine Calls.mono (stateG (n := 12) H1.out (by omega) (by omega)) ?_
  rintro e w2 ⟨on, sa, sn, sc, lo, hi, rfl, hst, hr2, hc2⟩
  have hs2 := hc2.size
  obtain ⟨b5, hb5⟩ : ∃ b, w2.heap.size = b := ⟨_, rfl⟩
  have n5 : ¬ b5 = g := by omega
  have ny5 : ¬ w.heap.size = b5 := by omega
  have nz5 : ¬ w.heap.size + 1 = b5 := by omega
  go_wp2_with fail
  try simp only [hb5]
  refine calls_let ?_
  intro E hE
  have hal : Grew w2 E := by rw [hE]; exact grew_al (Below.refl _ _) _
  have CE := Lib.hid (show ChgG g w1 E from hc2.grew hal)
  have BE := Lib.hid (show Blk E b5 33 #[.bool on, .slice sa sn sc, .int .i64 lo, .int .i64 hi] from by rw [hE, ← hb5]; exact Blk.new _ _ _)
  have SE := Lib.hid (hst.grew hal)
  have RE := Lib.hid (hr2.grew hal)
  have hEs : w2.heap.size ≤ E.heap.size := hal.size
  clear hE hal hst hr2 hc2 H1 hb5
  obtain ⟨xs, hxl, hxr⟩ := SE.out.rd2
  have HOK := Lib.hid (specAbsOk on sa sn sc xs lo hi E (rdl_itv hxr hxl) (by have := SE.out.2.1; omega))
  have HXL := Lib.hid hxl
  clear hxr hxl
  obtain ⟨B, hB⟩ : ∃ B, w1.heap.size = B := ⟨_, rfl⟩
  have hgB : g < B := by omega
  have hn4 : stOkB on xs lo hi = true → on = true → sn = 4 := fun h1 h2 => by
    subst h2
    obtain ⟨_, x0, x1, x2, x3, h, _⟩ := st_four h1
    rw [← HXL.out, h]
    rfl
  refine HOK.out.mono ?_
  rintro e w3 ⟨rfl, g3⟩
  have C3 := Lib.hid (show ChgG g w1 w3 from CE.out.grew g3)
  have B3 := Lib.hid (BE.out.grew g3)
  have S3 : Hid (StD w3 B sa sn sc) := Lib.hid (by rw [← hB]; exact SE.out.grew g3)
  have R3 := Lib.hid (RE.out.grew g3)
  clear g3 HOK CE BE SE RE HXL hEs hs2
  cases hok : stOkB on xs lo hi
  · go_wp2_with fail
    refine wp_let_c ?_
    intro E2 hE2
    subst hE2
    obtain ⟨d0, d1, d2, d3⟩ : S4 b5 on sa sn sc lo hi E2 := S4.of B3.out
    go_region_held3 (fun W => W.cell? ⟨b5, 0, none⟩ = some (.bool on) ∧ W.cell? ⟨b5, 1, none⟩ = some (.slice sa sn sc) ∧ W.cell? ⟨b5, 2, none⟩ = some (.int .i64 lo) ∧ W.cell? ⟨b5, 3, none⟩ = some (.int .i64 hi)) (first | with_reducible assumption | with_reducible exact ⟨d0, d1, d2, d3⟩ | with_reducible exact hs8 | with_reducible exact S4.zw hs8 ny5 _ _ _ _ | with_reducible exact S4.zw hs8 nz5 _ _ _ _ | with_reducible exact S4.zw (S4.zw hs8 ny5 _ _ _ _) nz5 _ _ _ _ | with_reducible exact S4.zw (S4.zw hs8 nz5 _ _ _ _) ny5 _ _ _ _ | exact ⟨d0, d1, d2, d3⟩)
      (first
      | (go_at_call 61; refine Calls.mono (stateG (n := 12) (rd_drew R3.out) (by omega) (by omega)) ?_; rintro e w8 ⟨on8, a8, n8, c8, lo8, hi8, rfl, hst8, hr8, hc8⟩; have hcc8 : ChgG g E2 w8 := ChgG.trans (chg_drew (ChgG.refl _ _)) hc8; have hs8 : S4 b5 on sa sn sc lo hi w8 := S4.of (B3.out.chg hcc8 n5); have hy8 := hY1.out.chg (C3.out.trans hcc8) ngy; have hz8 := hZ1.out.chg (C3.out.trans hcc8) ngz; have y0 : w8.cell? ⟨w.heap.size, 0, none⟩ = some (.bool false) := hy8.cell 0; have y1 : w8.cell? ⟨w.heap.size, 1, none⟩ = some (.slice none 0 0) := hy8.cell 1; have y2 : w8.cell? ⟨w.heap.size, 2, none⟩ = some (.int .i64 0) := hy8.cell 2; have y3 : w8.cell? ⟨w.heap.size, 3, none⟩ = some (.int .i64 0) := hy8.cell 3; have z0 : w8.cell? ⟨w.heap.size + 1, 0, none⟩ = some (.bool false) := hz8.cell 0; have z1 : w8.cell? ⟨w.heap.size + 1, 1, none⟩ = some (.slice none 0 0) := hz8.cell 1; have z2 : w8.cell? ⟨w.heap.size + 1, 2, none⟩ = some (.int .i64 0) := hz8.cell 2; have z3 : w8.cell? ⟨w.heap.size + 1, 3, none⟩ = some (.int .i64 0) := hz8.cell 3; have yf := fun j => hy8.frozen j; have zf := fun j => hz8.frozen j; have yl := hy8.lt; have zl := hz8.lt; have HX8 := Lib.hid (And.intro hcc8 hst8); clear hcc8 hr8 hc8 hst8 hy8 hz8))
    go_wp2
    refine bodyPost_ret (by simp [results, Tryz.results17, go_sem, y0, y1, y2, y3, yl, z0, z1, z2, z3, zl]; try rfl) rfl ?_
    obtain ⟨hcc, hst⟩ := HX8.out
    have hgr : Grew w w8 := G1.out.trans ((C3.out.trans hcc).belowB G1.out.size (fun k hk => by omega))
    have hE2s := C3.out.size
    have hw8s := hcc.size
    refine ⟨_, _, _, _, _, _, _, _, _, _, _, _, rfl, ((hst.zw (z := w.heap.size) ?_ _ _ _ _).zw (z := w.heap.size + 1) ?_ _ _ _ _).mono (Nat.zero_le _), (((S3.out.chgG hcc hgB).zw (z := w.heap.size) ?_ _ _ _ _).zw (z := w.heap.size + 1) ?_ _ _ _ _).mono (Nat.zero_le _), grew_zw (grew_zw hgr (Nat.le_refl _) _ _ _ _) (by omega) _ _ _ _⟩
    all_goals first | omega | (simp only [World.size_drew]; omega)
  have hn4 := hn4 hok
  clear hok
  go_wp2_with fail
  refine Calls.mono (pickG (k := 2) R3.out (by omega) (by omega)) ?_
  rintro e w4 ⟨v, rfl, ⟨s, rfl, _⟩, hr4, hc4⟩
  have C3 := Lib.hid (C3.out.trans hc4)
  have B3 := Lib.hid (B3.out.chg hc4 n5)
  have S3 := Lib.hid (S3.out.chgG hc4 hgB)
  have R3 := Lib.hid hr4
  clear hr4 hc4
  by_cases hs0 : s = 0
  rotate_left
  · have q0 : ((s : Int) == 0) = false := beq_eq_false_iff_ne.2 (by omega)
    go_wp2_with fail
    refine wp_let_c ?_
    intro E2 hE2
    subst hE2
    obtain ⟨d0, d1, d2, d3⟩ : S4 b5 on sa sn sc lo hi E2 := S4.of B3.out
    go_region_held3 (fun W => W.cell? ⟨b5, 0, none⟩ = some (.bool on) ∧ W.cell? ⟨b5, 1, none⟩ = some (.slice sa sn sc) ∧ W.cell? ⟨b5, 2, none⟩ = some (.int .i64 lo) ∧ W.cell? ⟨b5, 3, none⟩ = some (.int .i64 hi)) (first | with_reducible assumption | with_reducible exact ⟨d0, d1, d2, d3⟩ | with_reducible exact hs8 | with_reducible exact S4.zw hs8 ny5 _ _ _ _ | with_reducible exact S4.zw hs8 nz5 _ _ _ _ | with_reducible exact S4.zw (S4.zw hs8 ny5 _ _ _ _) nz5 _ _ _ _ | with_reducible exact S4.zw (S4.zw hs8 nz5 _ _ _ _) ny5 _ _ _ _ | exact ⟨d0, d1, d2, d3⟩)
      (first
      | (go_at_call 61; refine Calls.mono (stateG (n := 12) (rd_drew R3.out) (by omega) (by omega)) ?_; rintro e w8 ⟨on8, a8, n8, c8, lo8, hi8, rfl, hst8, hr8, hc8⟩; have hcc8 : ChgG g E2 w8 := ChgG.trans (chg_drew (ChgG.refl _ _)) hc8; have hs8 : S4 b5 on sa sn sc lo hi w8 := S4.of (B3.out.chg hcc8 n5); have hy8 := hY1.out.chg (C3.out.trans hcc8) ngy; have hz8 := hZ1.out.chg (C3.out.trans hcc8) ngz; have y0 : w8.cell? ⟨w.heap.size, 0, none⟩ = some (.bool false) := hy8.cell 0; have y1 : w8.cell? ⟨w.heap.size, 1, none⟩ = some (.slice none 0 0) := hy8.cell 1; have y2 : w8.cell? ⟨w.heap.size, 2, none⟩ = some (.int .i64 0) := hy8.cell 2; have y3 : w8.cell? ⟨w.heap.size, 3, none⟩ = some (.int .i64 0) := hy8.cell 3; have z0 : w8.cell? ⟨w.heap.size + 1, 0, none⟩ = some (.bool false) := hz8.cell 0; have z1 : w8.cell? ⟨w.heap.size + 1, 1, none⟩ = some (.slice none 0 0) := hz8.cell 1; have z2 : w8.cell? ⟨w.heap.size + 1, 2, none⟩ = some (.int .i64 0) := hz8.cell 2; have z3 : w8.cell? ⟨w.heap.size + 1, 3, none⟩ = some (.int .i64 0) := hz8.cell 3; have yf := fun j => hy8.frozen j; have zf := fun j => hz8.frozen j; have yl := hy8.lt; have zl := hz8.lt; have HX8 := Lib.hid (And.intro hcc8 hst8); clear hcc8 hr8 hc8 hst8 hy8 hz8))
    go_wp2
    refine bodyPost_ret (by simp [results, Tryz.results17, go_sem, y0, y1, y2, y3, yl, z0, z1, z2, z3, zl]; try rfl) rfl ?_
    obtain ⟨hcc, hst⟩ := HX8.out
    have hgr : Grew w w8 := G1.out.trans ((C3.out.trans hcc).belowB G1.out.size (fun k hk => by omega))
    have hE2s := C3.out.size
    have hw8s := hcc.size
    refine ⟨_, _, _, _, _, _, _, _, _, _, _, _, rfl, ((hst.zw (z := w.heap.size) ?_ _ _ _ _).zw (z := w.heap.size + 1) ?_ _ _ _ _).mono (Nat.zero_le _), (((S3.out.chgG hcc hgB).zw (z := w.heap.size) ?_ _ _ _ _).zw (z := w.heap.size + 1) ?_ _ _ _ _).mono (Nat.zero_le _), grew_zw (grew_zw hgr (Nat.le_refl _) _ _ _ _) (by omega) _ _ _ _⟩
    all_goals first | omega | (simp only [World.size_drew]; omega)
  subst hs0
  go_wp2_with fail
  refine wp_let_c ?_
  intro E2 hE2
  subst hE2
  obtain ⟨d0, d1, d2, d3⟩ : S4 b5 on sa sn sc lo hi E2 := S4.of B3.out
  go_region_held3 (fun W => W.cell? ⟨b5, 0, none⟩ = some (.bool on) ∧ W.cell? ⟨b5, 1, none⟩ = some (.slice sa sn sc) ∧ W.cell? ⟨b5, 2, none⟩ = some (.int .i64 lo) ∧ W.cell? ⟨b5, 3, none⟩ = some (.int .i64 hi)) (first | with_reducible assumption | with_reducible exact ⟨d0, d1, d2, d3⟩ | with_reducible exact hs8 | with_reducible exact S4.zw hs8 ny5 _ _ _ _ | with_reducible exact S4.zw hs8 nz5 _ _ _ _ | with_reducible exact S4.zw (S4.zw hs8 ny5 _ _ _ _) nz5 _ _ _ _ | with_reducible exact S4.zw (S4.zw hs8 nz5 _ _ _ _) ny5 _ _ _ _ | exact ⟨d0, d1, d2, d3⟩)
    (first
    | (go_at_call 62; refine Calls.mono (withinG (rd_drew R3.out) (by omega) (((S3.out.grew (grew_d (Below.refl _ _))).mono (by omega))) hn4) ?_; rintro e w8 ⟨on8, a8, n8, c8, lo8, hi8, rfl, hst8, hr8, hc8⟩; have hcc8 : ChgG g E2 w8 := ChgG.trans (chg_drew (ChgG.refl _ _)) hc8; have hs8 : S4 b5 on sa sn sc lo hi w8 := S4.of (B3.out.chg hcc8 n5); have hy8 := hY1.out.chg (C3.out.trans hcc8) ngy; have hz8 := hZ1.out.chg (C3.out.trans hcc8) ngz; have y0 : w8.cell? ⟨w.heap.size, 0, none⟩ = some (.bool false) := hy8.cell 0; have y1 : w8.cell? ⟨w.heap.size, 1, none⟩ = some (.slice none 0 0) := hy8.cell 1; have y2 : w8.cell? ⟨w.heap.size, 2, none⟩ = some (.int .i64 0) := hy8.cell 2; have y3 : w8.cell? ⟨w.heap.size, 3, none⟩ = some (.int .i64 0) := hy8.cell 3; have z0 : w8.cell? ⟨w.heap.size + 1, 0, none⟩ = some (.bool false) := hz8.cell 0; have z1 : w8.cell? ⟨w.heap.size + 1, 1, none⟩ = some (.slice none 0 0) := hz8.cell 1; have z2 : w8.cell? ⟨w.heap.size + 1, 2, none⟩ = some (.int .i64 0) := hz8.cell 2; have z3 : w8.cell? ⟨w.heap.size + 1, 3, none⟩ = some (.int .i64 0) := hz8.cell 3; have yf := fun j => hy8.frozen j; have zf := fun j => hz8.frozen j; have yl := hy8.lt; have zl := hz8.lt; have HX8 := Lib.hid (And.intro hcc8 hst8); clear hcc8 hr8 hc8 hst8 hy8 hz8))
  go_wp2
  refine bodyPost_ret (by simp [results, Tryz.results17, go_sem, y0, y1, y2, y3, yl, z0, z1, z2, z3, zl]; try rfl) rfl ?_
  obtain ⟨hcc, hst⟩ := HX8.out
  have hgr : Grew w w8 := G1.out.trans ((C3.out.trans hcc).belowB G1.out.size (fun k hk => by omega))
  have hE2s := C3.out.size
  have hw8s := hcc.size
  refine ⟨_, _, _, _, _, _, _, _, _, _, _, _, rfl, ((hst.zw (z := w.heap.size) ?_ _ _ _ _).zw (z := w.heap.size + 1) ?_ _ _ _ _).mono (Nat.zero_le _), (((S3.out.chgG hcc hgB).zw (z := w.heap.size) ?_ _ _ _ _).zw (z := w.heap.size + 1) ?_ _ _ _ _).mono (Nat.zero_le _), grew_zw (grew_zw hgr (Nat.le_refl _) _ _ _ _) (by omega) _ _ _ _⟩
  all_goals first | omega | (simp only [World.size_drew]; omega)
end Go.Proofs.YtpmfpgbpndobpaaGreat
