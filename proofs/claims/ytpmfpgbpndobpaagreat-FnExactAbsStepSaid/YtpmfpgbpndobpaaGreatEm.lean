/- Rows of places with states: what the laws mark in them, and that the marks are held. No condition. -/
import Derived.Test.YtpmfpgbpndobpaaGreatEg
namespace Go.Proofs.YtpmfpgbpndobpaaGreat
open Go.RowKit
set_option linter.unusedVariables false
set_option linter.unusedSimpArgs false
attribute [local go_sem] ext_cell ext_frozen ext_lt ext_le ext_le1 lt_s2 lt_s3 lt_s4 lt_s5 lt_s6 ext_lt1 ext_lt2 ext_lt3

/-- A place with a state, cell by cell. -/
structure Eg where
  a0 : Value
  a1 : Value
  row : Value
  a3 : Value
  a4 : Value
  cs : List Value
def Eg.cells (g : Eg) : List Value := [g.a0, g.a1, g.row, g.a3, g.a4]
theorem eg_len (g : Eg) : g.cells.length = 5 := rfl
structure OwnG (w : World) (B N : Nat) (v : Value) (gs : List Eg) : Prop where
  top : w.ownsRow B 55 5 v gs.length (gs.flatMap Eg.cells)
  each : ∀ g, g ∈ gs → w.ownsRow B 31 2 g.row 4 g.cs
  apart : gs.Pairwise (fun x y => ∀ b, x.row.ownBlock = some b → y.row.ownBlock ≠ some b)
  t : ∀ b, v.ownBlock = some b → b < N
  r : ∀ g, g ∈ gs → ∀ b, g.row.ownBlock = some b → b < N
def egOf (m : Ed × Value) : Eg := ⟨.int .i64 m.1.to, .bool true, m.2, .int .i64 m.1.c.lo, .int .i64 m.1.c.hi, m.1.xs.flatMap Itv.cells⟩
theorem flat_egOf : ∀ ms : List (Ed × Value), (ms.map egOf).flatMap Eg.cells = ms.flatMap esC
  | [] => rfl
  | m :: ms => by rw [List.map_cons, List.flatMap_cons, List.flatMap_cons, flat_egOf ms]; rfl
section
variable {w w' : World} {B N : Nat} {v : Value} {gs : List Eg}
theorem OwnG.of {n : Nat} {ms : List (Ed × Value)} (h : OwnE w B v n ms) (hap : Apart ms) (h4 : ∀ m, m ∈ ms → m.1.xs.length = 4) : OwnG w B w.heap.size v (ms.map egOf) := by
  refine ⟨?_, fun g hg => ?_, ?_, fun b hb => (h.2.1.lt b hb).2, fun g hg b hb => ?_⟩
  · rw [flat_egOf, List.length_map, h.1]
    exact h.2.1
  · obtain ⟨m, hm, rfl⟩ := List.mem_map.1 hg
    have := h.2.2 m hm
    rw [h4 m hm] at this
    exact this
  · exact List.pairwise_map.2 hap
  · obtain ⟨m, hm, rfl⟩ := List.mem_map.1 hg
    exact ((h.2.2 m hm).lt b hb).2
theorem OwnG.chg {F : Nat → Prop} (h : OwnG w B N v gs) (c : Chg F w w') (hF : ∀ b, B ≤ b → b < N → ¬ F b) : OwnG w' B N v gs :=
  ⟨owns_chg h.top c (fun b hb => hF b (h.top.lt b hb).1 (h.t b hb)), fun g hg => owns_chg (h.each g hg) c (fun b hb => hF b ((h.each g hg).lt b hb).1 (h.r g hg b hb)), h.apart, h.t, h.r⟩
theorem OwnG.grew (h : OwnG w B N v gs) (g : Grew w w') : OwnG w' B N v gs := h.chg (Chg.of_below (F := fun _ => False) g) (fun _ _ _ e => e)
end
theorem sets_behindG : ∀ (cs l r : List Value) (j : Nat), sets (l ++ r) (l.length + j) cs = l ++ sets r j cs
  | [], _, _, _ => rfl
  | c :: cs, l, r, j => by
    rw [sets, sets, List.set_append_right _ _ (by omega), show l.length + j - l.length = j from by omega, Nat.add_assoc, sets_behindG cs l (r.set j c) (j + 1)]
theorem sets_eg (xs ys : List Eg) (g : Eg) (x0 x1 x3 x4 : Value) (cs : List Value) (k : Nat) (hk : xs.length = k) :
    sets (sets ((xs ++ g :: ys).flatMap Eg.cells) (k * 5) [x0, x1]) (k * 5 + 3) [x3, x4] = (xs ++ ⟨x0, x1, g.row, x3, x4, cs⟩ :: ys).flatMap Eg.cells := by
  have hl : (xs.flatMap Eg.cells).length = k * 5 := by rw [flat_len Eg.cells 5 eg_len, hk]
  rw [List.flatMap_append, List.flatMap_append, ← hl, show (xs.flatMap Eg.cells).length = (xs.flatMap Eg.cells).length + 0 from rfl, sets_behindG, Nat.add_zero, sets_behindG]
  rfl
/-- One of them is turned. -/
theorem OwnG.turn {w w3 : World} {B N n cap gb k : Nat} {xs ys : List Eg} {g : Eg} {x0 x1 x3 x4 : Value} {cs : List Value} (h : OwnG w B N (.slice (some ⟨gb, 0, none⟩) n cap) (xs ++ g :: ys)) (hn : (xs ++ g :: ys).length = n) (hk : xs.length = k)
    (h3 : w3.ownsRow B 31 2 g.row 4 cs) (c : Chg (fun b => g.row.ownBlock = some b) (setCs w gb (k * 5) [x0, x1]) w3) :
    OwnG (setCs w3 gb (k * 5 + 3) [x3, x4]) B N (.slice (some ⟨gb, 0, none⟩) n cap) (xs ++ ⟨x0, x1, g.row, x3, x4, cs⟩ :: ys) ∧ Chg (fun b => B ≤ b ∧ b < N) w (setCs w3 gb (k * 5 + 3) [x3, x4]) := by
  have htop := h.top
  rw [hn] at htop
  have hg := h.each g (by simp)
  obtain ⟨o1, g1⟩ := own_sets [x0, x1] w _ (k * 5) htop
  have o2 := owns_chg o1 c (fun b e1 e2 => own_ne o1 (owns_chg hg (Chg.of_grownBy g1) (fun b hb hF => own_ne htop hg (by decide) (b := b) (by rw [← hF]; rfl) hb)) (by decide) e1 e2)
  obtain ⟨o3, g3⟩ := own_sets [x3, x4] w3 _ (k * 5 + 3) o2
  have ne1 : ∀ u, u ∈ xs ++ g :: ys → ∀ b, u.row.ownBlock = some b → ¬ (some gb : Option Nat) = some b := fun u hu b hb hF => own_ne htop (h.each u hu) (by decide) (b := b) (by rw [← hF]; rfl) hb
  have hA : ∀ u, u ∈ xs ++ g :: ys → (∀ b, u.row.ownBlock = some b → ¬ g.row.ownBlock = some b) → (setCs w3 gb (k * 5 + 3) [x3, x4]).ownsRow B 31 2 u.row 4 u.cs := fun u hu hne =>
    owns_chg (owns_chg (owns_chg (h.each u hu) (Chg.of_grownBy g1) (fun b hb hF => ne1 u hu b hb hF)) c (fun b hb hF => hne b hb hF)) (Chg.of_grownBy g3) (fun b hb hF => ne1 u hu b hb hF)
  obtain ⟨p1, p2, p3⟩ := List.pairwise_append.1 h.apart
  obtain ⟨p4, p5⟩ := List.pairwise_cons.1 p2
  refine ⟨⟨?_, fun u hu => ?_, ?_, h.t, fun u hu => ?_⟩, ?_⟩
  · rw [sets_eg xs ys g x0 x1 x3 x4 cs k hk] at o3
    rw [show (xs ++ (⟨x0, x1, g.row, x3, x4, cs⟩ : Eg) :: ys).length = n from by rw [← hn]; simp]
    exact o3
  · rcases List.mem_append.1 hu with hx | hx
    · exact hA u (by simp [hx]) (fun b e1 e2 => p3 u hx g (by simp) b e1 e2)
    · rcases List.mem_cons.1 hx with rfl | hx
      · exact owns_chg h3 (Chg.of_grownBy g3) (fun b hb hF => ne1 g (by simp) b hb hF)
      · exact hA u (by simp [hx]) (fun b e1 e2 => p4 u hx b e2 e1)
  · refine List.pairwise_append.2 ⟨p1, List.pairwise_cons.2 ⟨fun u hu b e1 e2 => p4 u hu b e1 e2, p5⟩, fun u hu u' hu' b e1 e2 => ?_⟩
    rcases List.mem_cons.1 hu' with rfl | hu'
    · exact p3 u hu g (by simp) b e1 e2
    · exact p3 u hu u' (by simp [hu']) b e1 e2
  · rcases List.mem_append.1 hu with hx | hx
    · exact h.r u (by simp [hx])
    · rcases List.mem_cons.1 hx with rfl | hx
      · exact h.r g (by simp)
      · exact h.r u (by simp [hx])
  · have ht : B ≤ gb ∧ gb < N := ⟨(htop.lt gb rfl).1, h.t gb rfl⟩
    refine Chg.trans (Chg.trans (Chg.of_grownBy g1) c (fun b _ hb => ?_) (fun i _ hi => ?_)) (Chg.of_grownBy g3) (fun b _ hb => hb) (fun i _ hi => ?_)
    · have : gb = b := by simpa using hb
      subst this
      exact ht
    · exact ⟨(hg.lt i hi).1, h.r g (by simp) i hi⟩
    · have : gb = i := by simpa using hi
      subst this
      exact ht
abbrev on3 (K : Nat) : Bool := (((K : Nat) : Int) % 3 == 0)
def markG (k : Nat) (g : Eg) : Eg := ⟨.int .i64 (k : Int), .bool (on3 (k + 1)), g.row, .int .i64 ((k + 10 : Nat) : Int), .int .i64 ((k + 11 : Nat) : Int), markI (k + 2) 8⟩
def marksG : Nat → List Eg → List Eg
  | _, [] => []
  | k, g :: gs => markG k g :: marksG (k + 12) gs
theorem marksG_len : ∀ (k : Nat) (gs : List Eg), (marksG k gs).length = gs.length
  | _, [] => rfl
  | k, g :: gs => by rw [marksG, List.length_cons, List.length_cons, marksG_len]
theorem marksG_snoc : ∀ (k : Nat) (gs : List Eg) (g : Eg), marksG k (gs ++ [g]) = marksG k gs ++ [markG (k + 12 * gs.length) g]
  | _, [], _ => rfl
  | k, x :: gs, g => by
    rw [List.cons_append, marksG, marksG_snoc (k + 12) gs g, marksG, List.cons_append, List.length_cons, show k + 12 + 12 * gs.length = k + 12 * (gs.length + 1) from by omega]
theorem marksG_get : ∀ (k0 : Nat) (gs : List Eg) (k : Nat) (g : Eg), gs[k]? = some g → (marksG k0 gs)[k]? = some (markG (k0 + 12 * k) g)
  | _, [], k, g, h => by simp at h
  | k0, x :: gs, 0, g, h => by
    simp only [List.getElem?_cons_zero, Option.some.injEq] at h
    subst h
    rfl
  | k0, x :: gs, k + 1, g, h => by
    rw [List.getElem?_cons_succ] at h
    rw [marksG, List.getElem?_cons_succ, marksG_get _ gs k g h, show k0 + 12 + 12 * k = k0 + 12 * (k + 1) from by omega]
theorem OwnG.form {w : World} {B N n cap : Nat} {a : Option Addr} {gs : List Eg} (h : OwnG w B N (.slice a n cap) gs) (hn : gs.length = n) (h0 : 0 < n) : ∃ gb, a = some ⟨gb, 0, none⟩ := by
  rcases h.top.2 with ⟨h1, h2⟩ | ⟨g, cap', cur, h1, _⟩
  · omega
  · simp only [Value.slice.injEq] at h1
    exact ⟨g, h1.1⟩
theorem OwnG.cell {w : World} {B N n cap gb k : Nat} {gs : List Eg} {g : Eg} (h : OwnG w B N (.slice (some ⟨gb, 0, none⟩) n cap) gs) (hn : gs.length = n) (hk : gs[k]? = some g) :
    w.cell? ⟨gb, k * 5, none⟩ = some g.a0 ∧ w.cell? ⟨gb, k * 5 + 1, none⟩ = some g.a1 ∧ w.cell? ⟨gb, k * 5 + 2, none⟩ = some g.row ∧ w.cell? ⟨gb, k * 5 + 3, none⟩ = some g.a3 ∧ w.cell? ⟨gb, k * 5 + 4, none⟩ = some g.a4 ∧ ∀ j, w.frozen? ⟨gb, j, none⟩ = false := by
  have ht := h.top
  rw [hn] at ht
  have hkn : k < n := by rw [← hn]; exact (List.getElem?_eq_some_iff.1 hk).1
  have hlen : (gs.flatMap Eg.cells).length = n * 5 := by rw [flat_len Eg.cells 5 eg_len, hn]
  exact ⟨(ht.cellAt (k * 5) (by omega)).trans (flat_get Eg.cells 5 eg_len gs k g 0 _ hk rfl), (ht.cellAt (k * 5 + 1) (by omega)).trans (flat_get Eg.cells 5 eg_len gs k g 1 _ hk rfl), (ht.cellAt (k * 5 + 2) (by omega)).trans (flat_get Eg.cells 5 eg_len gs k g 2 _ hk rfl),
    (ht.cellAt (k * 5 + 3) (by omega)).trans (flat_get Eg.cells 5 eg_len gs k g 3 _ hk rfl), (ht.cellAt (k * 5 + 4) (by omega)).trans (flat_get Eg.cells 5 eg_len gs k g 4 _ hk rfl), fun j => ht.frozenAt j⟩
set_option maxHeartbeats 4000000 in
theorem markAbsEdgeS (a : Option Addr) (n cap k0 : Nat) (gs : List Eg) (B N : Nat) (w : World) (h : OwnG w B N (.slice a n cap) gs) (hn : gs.length = n) (hk0 : k0 ≤ 1000000) (hm : n ≤ 1000) :
    Calls Tryz.prog 36 #[.slice a n cap, .int .i64 k0] w fun e w' => e = .returned (.int .i64 ((k0 + 12 * n : Nat) : Int)) ∧ OwnG w' B N (.slice a n cap) (marksG k0 gs) ∧ Chg (fun b => B ≤ b ∧ b < N) w w' := by
  have HH := Lib.hid h; clear h
  have HN := Lib.hid hn; clear hn
  go_enter Tryz.func36, Tryz.ntmps36
  go_wp2
  go_loopw [1, 5] (fun kk i wr => ∃ k K : Nat, k ≤ n ∧ K = k0 + 12 * k ∧ i = .int .i64 k ∧ kk = .int .i64 (K : Int) ∧ OwnG wr B N (.slice a n cap) (marksG k0 (gs.take k) ++ gs.drop k) ∧ Chg (fun b => B ≤ b ∧ b < N) w wr) (fun _ i _ => n - (intOf i).toNat)
  case atStart => exact ⟨0, k0, Nat.zero_le _, by omega, rfl, rfl, by simpa [marksG] using HH.out, Chg.refl _ _⟩
  case round =>
    obtain ⟨k, K, hk, hK, rfl, rfl, ho, hc⟩ := hrel
    by_cases hlt : k < n
    · have hkl : k < gs.length := by rw [HN.out]; exact hlt
      obtain ⟨m, hmk⟩ : ∃ m, gs[k]? = some m := ⟨_, List.getElem?_eq_getElem hkl⟩
      have hd : gs.drop k = m :: gs.drop (k + 1) := by
        rw [List.drop_eq_getElem_cons hkl]
        congr 1
        exact Option.some.inj ((List.getElem?_eq_getElem hkl).symm.trans hmk)
      have htk : (gs.take k).length = k := by rw [List.length_take]; omega
      rw [hd] at ho
      have hlen : (marksG k0 (gs.take k) ++ m :: gs.drop (k + 1)).length = n := by
        rw [List.length_append, marksG_len, htk, List.length_cons, List.length_drop, HN.out]
        omega
      have hat : (marksG k0 (gs.take k) ++ m :: gs.drop (k + 1))[k]? = some m := by
        rw [List.getElem?_append_right (by rw [marksG_len, htk]; exact Nat.le_refl _), marksG_len, htk, Nat.sub_self]
        rfl
      obtain ⟨gb, rfl⟩ := ho.form hlen (by omega)
      obtain ⟨c0, c1, c2, c3, c4, cf⟩ := ho.cell hlen hat
      have hrow := ho.each m (by simp)
      obtain ⟨ra, rc, hrr⟩ := owns_slice hrow
      rw [hrr] at c2
      have hb := World.block_lt_of_cell? _ _ c0
      simp only at hb
      have hKb : K ≤ 2000000 := by omega
      obtain ⟨K1, hK1⟩ : ∃ K1 : Nat, K1 = K + 1 := ⟨_, rfl⟩
      obtain ⟨K2, hK2⟩ : ∃ K2 : Nat, K2 = K + 2 := ⟨_, rfl⟩
      obtain ⟨K10, hK10⟩ : ∃ K2 : Nat, K2 = K + 10 := ⟨_, rfl⟩
      obtain ⟨K11, hK11⟩ : ∃ K2 : Nat, K2 = K + 11 := ⟨_, rfl⟩
      obtain ⟨K12, hK12⟩ : ∃ K2 : Nat, K2 = K + 12 := ⟨_, rfl⟩
      have w1 : IntKind.i64.wrap ((K : Int) + 1) = (K1 : Int) := by rw [show (K : Int) + 1 = (K1 : Int) from by omega]; first | exact IntWalk.i64_in (by omega) (by omega) | exact IntWalk.i64_in _ (by omega) (by omega) | go_unwrap
      have w2 : IntKind.i64.wrap ((K1 : Int) + 1) = (K2 : Int) := by rw [show (K1 : Int) + 1 = (K2 : Int) from by omega]; first | exact IntWalk.i64_in (by omega) (by omega) | exact IntWalk.i64_in _ (by omega) (by omega) | go_unwrap
      have w3 : IntKind.i64.wrap ((K10 : Int) + 1) = (K11 : Int) := by rw [show (K10 : Int) + 1 = (K11 : Int) from by omega]; first | exact IntWalk.i64_in (by omega) (by omega) | exact IntWalk.i64_in _ (by omega) (by omega) | go_unwrap
      have w4 : IntKind.i64.wrap ((K11 : Int) + 1) = (K12 : Int) := by rw [show (K11 : Int) + 1 = (K12 : Int) from by omega]; first | exact IntWalk.i64_in (by omega) (by omega) | exact IntWalk.i64_in _ (by omega) (by omega) | go_unwrap
      have ht := ho.top
      rw [hlen] at ht
      obtain ⟨o1, g1⟩ := own_sets ([.int .i64 (K : Int), .bool (on3 K1)]) _ _ (k * 5) ht
      have hrow1 := owns_chg hrow (Chg.of_grownBy g1) (fun b hb hF => own_ne ht hrow (by decide) (b := b) (by rw [← hF]; rfl) hb)
      have ne1 : ∀ b, m.row.ownBlock = some b → ¬ b = gb := fun b hb e => own_ne ht hrow (by decide) (b := b) (by rw [e]; rfl) hb
      rw [hrr] at hrow1
      have HM := Lib.hid (markItvItvS ra 4 rc K2 _ B _ hrow1 (by omega) (by omega))
      have h8 : (K2 + 4 * 2 : Nat) = K10 := by omega
      rw [h8] at HM
      have HOT := Lib.hid (fun w3 cs x3 x4 h3 c => OwnG.turn (x0 := .int .i64 (K : Int)) (x1 := .bool (on3 K1)) (x3 := x3) (x4 := x4) (w3 := w3) (cs := cs) (k := k) ho hlen (by rw [marksG_len, htk]) h3 c)
      have HO1 := Lib.hid o1
      have HNE := Lib.hid ne1
      have hl1 : (sets ((marksG k0 (gs.take k) ++ m :: gs.drop (k + 1)).flatMap Eg.cells) (k * 5) [.int .i64 (K : Int), .bool (on3 K1)]).length = n * 5 := o1.1
      have HL1 := Lib.hid hl1
      have HRR := Lib.hid hrr
      have HTK := Lib.hid (take_get hmk)
      have HC := Lib.hid hc
      have HKE := Lib.hid (show markG (k0 + 12 * k) m = ⟨.int .i64 (K : Int), .bool (on3 K1), m.row, .int .i64 (K10 : Int), .int .i64 (K11 : Int), markI K2 8⟩ from by rw [← hK]; simp only [markG, hK1, hK2, hK10, hK11])
      have HTL := Lib.hid htk
      have HK := Lib.hid hK
      have HK12 := Lib.hid hK12
      clear ho hrow hrow1 ht o1 ne1 hl1 g1 hat hd hrr hmk hc htk hlen h8 hK hK1 hK2 hK10 hK11 hK12
      go_wp2_with fail
      refine HM.out.mono ?_
      rintro e w5 ⟨rfl, o5, c5⟩
      obtain ⟨O6, C6⟩ := HOT.out w5 (markI K2 8) (.int .i64 (K10 : Int)) (.int .i64 (K11 : Int)) (by rw [HRR.out]; exact o5) (by rw [HRR.out]; exact c5)
      have HO6 := Lib.hid O6
      have HC6 := Lib.hid (show Chg (fun b => B ≤ b ∧ b < N) w _ from HC.out.trans C6 (fun _ _ e => e) (fun _ _ e => e))
      have o5t := owns_chg HO1.out c5 (fun b hb hF => HNE.out b (by rw [HRR.out]; exact hF) (by simpa [Value.ownBlock] using hb.symm))
      obtain ⟨y3, e3⟩ := own_some o5t (j := k * 5 + 3) (by omega)
      obtain ⟨y4, e4⟩ := own_some o5t (j := k * 5 + 4) (by omega)
      have f5 := fun j => o5t.frozenAt j
      have hb5 := World.block_lt_of_cell? _ _ e3
      simp only at hb5
      clear o5t o5 c5 c0 c1 c2 c3 c4 cf hb C6 O6 HOT HM HO1 HC
      go_wp2
      go_roundw
      case rel =>
        refine ⟨k + 1, K12, by omega, by have := HK.out; have := HK12.out; omega, by go_num, rfl, ?_, HC6.out⟩
        rw [HTK.out, marksG_snoc, HTL.out, HKE.out, List.append_assoc]
        exact HO6.out
      case measure => simp [intOf]; omega
    · obtain rfl : k = n := by omega
      rw [List.take_of_length_le (by rw [HN.out]; exact Nat.le_refl _), List.drop_of_length_le (by rw [HN.out]; exact Nat.le_refl _), List.append_nil] at ho
      have HO := Lib.hid ho
      have HC := Lib.hid hc
      have HK := Lib.hid hK
      clear ho hc hK
      go_wp2
      go_ret
      exact ⟨by rw [HK.out]; rfl, HO.out, HC.out⟩
set_option maxHeartbeats 4000000 in
theorem heldAbsEdgeS (a : Option Addr) (n cap k0 : Nat) (gs : List Eg) (B N : Nat) (w : World) (h : OwnG w B N (.slice a n cap) (marksG k0 gs)) (hn : gs.length = n) (hk0 : k0 ≤ 1000000) (hm : n ≤ 1000) :
    Calls Tryz.prog 37 #[.slice a n cap, .int .i64 k0] w fun e w' => e = .returned (.int .i64 ((k0 + 12 * n : Nat) : Int)) ∧ Grew w w' := by
  have HH := Lib.hid h; clear h
  have HN := Lib.hid hn; clear hn
  go_enter Tryz.func37, Tryz.ntmps37
  go_wp2
  go_loopw [1, 5] (fun kk i wr => ∃ k K : Nat, k ≤ n ∧ K = k0 + 12 * k ∧ i = .int .i64 k ∧ kk = .int .i64 (K : Int) ∧ Grew w wr) (fun _ i _ => n - (intOf i).toNat)
  case atStart => exact ⟨0, k0, Nat.zero_le _, by omega, rfl, rfl, Below.refl _ _⟩
  case round =>
    obtain ⟨k, K, hk, hK, rfl, rfl, hg⟩ := hrel
    by_cases hlt : k < n
    · have hkl : k < gs.length := by rw [HN.out]; exact hlt
      obtain ⟨m, hmk⟩ : ∃ m, gs[k]? = some m := ⟨_, List.getElem?_eq_getElem hkl⟩
      have hat := marksG_get k0 gs k m hmk
      have ho := HH.out.grew hg
      have hlen : (marksG k0 gs).length = n := by rw [marksG_len, HN.out]
      obtain ⟨gb, rfl⟩ := ho.form hlen (by omega)
      obtain ⟨c0, c1, c2, c3, c4, -⟩ := ho.cell hlen hat
      have hrow := ho.each _ (List.mem_of_getElem? hat)
      obtain ⟨ra, rc, hrr⟩ := owns_slice hrow
      simp only [markG] at c0 c1 c2 c3 c4 hrr hrow
      rw [hrr] at c2
      have hb := World.block_lt_of_cell? _ _ c0
      simp only at hb
      have hKb : K ≤ 2000000 := by omega
      rw [← hK] at c0 c1 c3 c4 hrow
      obtain ⟨K1, hK1⟩ : ∃ K1 : Nat, K + 1 = K1 := ⟨_, rfl⟩
      obtain ⟨K2, hK2⟩ : ∃ K2 : Nat, K + 2 = K2 := ⟨_, rfl⟩
      obtain ⟨K10, hK10⟩ : ∃ K2 : Nat, K + 10 = K2 := ⟨_, rfl⟩
      obtain ⟨K11, hK11⟩ : ∃ K2 : Nat, K + 11 = K2 := ⟨_, rfl⟩
      obtain ⟨K12, hK12⟩ : ∃ K2 : Nat, K + 12 = K2 := ⟨_, rfl⟩
      rw [hK1] at c1
      rw [hK2] at hrow
      rw [hK10] at c3
      rw [hK11] at c4
      have w1 : IntKind.i64.wrap ((K : Int) + 1) = (K1 : Int) := by rw [show (K : Int) + 1 = (K1 : Int) from by omega]; first | exact IntWalk.i64_in (by omega) (by omega) | exact IntWalk.i64_in _ (by omega) (by omega) | go_unwrap
      have w2 : IntKind.i64.wrap ((K1 : Int) + 1) = (K2 : Int) := by rw [show (K1 : Int) + 1 = (K2 : Int) from by omega]; first | exact IntWalk.i64_in (by omega) (by omega) | exact IntWalk.i64_in _ (by omega) (by omega) | go_unwrap
      have w3 : IntKind.i64.wrap ((K10 : Int) + 1) = (K11 : Int) := by rw [show (K10 : Int) + 1 = (K11 : Int) from by omega]; first | exact IntWalk.i64_in (by omega) (by omega) | exact IntWalk.i64_in _ (by omega) (by omega) | go_unwrap
      have w4 : IntKind.i64.wrap ((K11 : Int) + 1) = (K12 : Int) := by rw [show (K11 : Int) + 1 = (K12 : Int) from by omega]; first | exact IntWalk.i64_in (by omega) (by omega) | exact IntWalk.i64_in _ (by omega) (by omega) | go_unwrap
      rw [hrr] at hrow
      have hrd := owns_rd hrow
      have HM := Lib.hid (heldItvItvS ra 4 rc K2 wr hrd (by omega) (by omega))
      have h8 : (K2 + 4 * 2 : Nat) = K10 := by omega
      rw [h8] at HM
      have HG := Lib.hid hg
      have HK := Lib.hid hK
      have HK12 := Lib.hid hK12
      have hp10 : ¬ (K10 : Int) < 0 := by omega
      clear ho hrow hrd hat hrr hmk hlen h8 hK hK1 hK2 hK10 hK11 hK12 hg
      go_wp2_with fail
      refine HM.out.mono ?_
      rintro e w5 ⟨rfl, rfl⟩
      go_wp2
      go_roundw
      case rel => exact ⟨k + 1, K12, by omega, by have := HK.out; have := HK12.out; omega, by go_num, rfl, HG.out⟩
      case measure => simp [intOf]; omega
    · obtain rfl : k = n := by omega
      have HG := Lib.hid hg
      have HK := Lib.hid hK
      clear hg hK
      go_wp2
      go_ret
      exact ⟨by rw [HK.out]; rfl, HG.out⟩
end Go.Proofs.YtpmfpgbpndobpaaGreat
