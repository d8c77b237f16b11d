/- The program's scanner of words. The numbers want the table of powers of ten and the two errors of a numeral. -/
import Derived.Test.YtcdfomoglkhboaaGreatDoorTn
import Derived.Test.YtcdfomoglkhboaaGreatDoorTxD
import Derived.Test.YtcdfomoglkhboaaGreatDoorRgA
namespace Go.Proofs.YtcdfomoglkhboaaGreatDoor
open Go.RowKit Go.Lib
set_option linter.unusedVariables false
set_option linter.unusedSimpArgs false
attribute [local go_sem] ext_cell ext_frozen ext_lt ext_le ext_le1 lt_s2 lt_s3 lt_s4 lt_s5 lt_s6 ext_lt1 ext_lt2 ext_lt3

/-- The scanner's block, and the words that it has left. -/
def ScI (g : Nat) (s : Sc) (w : World) : Prop :=
  ∃ b off c, Blk w g 81 #[.slice (some ⟨b, off, none⟩) s.ws.length c, .bool s.bad] ∧ b ≠ g ∧ b < w.heap.size ∧ s.ws.length ≤ c ∧ c ≤ maxLen ∧
    ∀ (j : Nat) (x : List UInt8), s.ws[j]? = some x → w.cell? ⟨b, off + j, none⟩ = some (.string ⟨x.toArray⟩)
theorem ScI.grew {g : Nat} {s : Sc} {w w' : World} (h : ScI g s w) (k : Grew w w') : ScI g s w' := by
  obtain ⟨b, off, c, h1, h2, h3, h4, h5, h6⟩ := h
  exact ⟨b, off, c, h1.grew k, h2, Nat.lt_of_lt_of_le h3 k.size, h4, h5, fun j x hx => gk k (h6 j x hx)⟩
theorem chg_set1 {g i : Nat} (w : World) (v : Value) : Chg (fun b => b = g) w (w.setCell ⟨g, i, none⟩ v) := Chg.alw (F := fun b => b = g) (p := ⟨g, i, none⟩) (Chg.refl _ w) rfl v

set_option maxRecDepth 100000 in
theorem scNext (g : Nat) (s : Sc) (w : World) (h : ScI g s w) :
    Calls Tryz.prog 109 #[.pointer (some ⟨g, 0, none⟩)] w fun e w' => e = .returned (.string ⟨(nextP s).1.toArray⟩) ∧ ScI g (nextP s).2 w' ∧ Chg (fun b => b = g) w w' := by
  obtain ⟨ws, bad⟩ := s
  obtain ⟨b, off, c, hB, hne, hlt, hc, hm, hw⟩ := h
  have hm' : c ≤ 9223372036854775807 := by unfold maxLen at hm; omega
  have hf := fun j => hB.frozen j
  have c0 := hB.cell 0
  have c1 := hB.cell 1
  simp only [List.getElem?_toArray, List.getElem?_cons_zero, List.getElem?_cons_succ] at c0 c1
  have hgl := hB.lt
  have HB := Lib.hid hB
  have HW := Lib.hid hw
  have HM := Lib.hid hm
  clear hB hm
  cases ws with
  | nil =>
    clear hw
    go_enter Tryz.func109, Tryz.ntmps109
    go_wp2
    go_ret
    exact ⟨rfl, ⟨b, off, c, HB.out.set_ 1 _, hne, by simpa using hlt, hc, HM.out, fun j x hx => by simp [nextP, Sc.wrong] at hx⟩, chg_set1 _ _⟩
  | cons x r =>
    have q0 := hw 0 x rfl
    rw [Nat.add_zero] at q0
    clear hw
    simp only [List.length_cons] at c0 hc HB
    by_cases h1 : c = 1
    · subst h1
      have hr : r = [] := List.eq_nil_of_length_eq_zero (by omega)
      subst hr
      go_enter Tryz.func109, Tryz.ntmps109
      go_wp2
      go_ret
      exact ⟨rfl, ⟨b, off, 0, HB.out.set_ 0 (.slice (some ⟨b, off, none⟩) 0 0), hne, by simpa using hlt, Nat.zero_le _, Nat.zero_le _, fun j x hx => by simp [nextP] at hx⟩, chg_set1 _ _⟩
    · have h2 : r.length + 1 ≤ c := hc
      go_enter Tryz.func109, Tryz.ntmps109
      go_wp2
      go_ret
      refine ⟨rfl, ⟨b, off + 1, c - 1, HB.out.set_ 0 (.slice (some ⟨b, off + 1, none⟩) r.length (c - 1)), hne, by simpa using hlt, by simp only [nextP]; omega, by have := HM.out; omega, fun j y hy => ?_⟩, chg_set1 _ _⟩
      rw [World.cell?_of_block (w := w) (a := ⟨b, off + 1 + j, none⟩) ((chg_set1 w _).block b hlt hne)]
      have := HW.out (j + 1) y (by simpa [nextP] using hy)
      rw [show off + 1 + j = off + (j + 1) by omega]
      exact this

/-- Where a word stands among some. -/
def idxS (L : List (List UInt8)) (x : List UInt8) : Int := Lib.idxOfS (L.map fun y => ⟨y.toArray⟩) ⟨x.toArray⟩
/-- A word that is one of some. -/
def atOf (L : List (List UInt8)) (x : List UInt8) : Option Int := if idxS L x < 0 ∨ x = [] then none else some (idxS L x)
theorem chg_tr {g : Nat} {w w1 w2 : World} (h1 : Chg (fun b => b = g) w w1) (h2 : Chg (fun b => b = g) w1 w2) : Chg (fun b => b = g) w w2 := h1.trans h2 (fun _ _ h => h) (fun _ _ h => h)
theorem chg_gw {g : Nat} {w w1 w2 : World} (h1 : Chg (fun b => b = g) w w1) (h2 : Grew w1 w2) : Chg (fun b => b = g) w w2 := h1.trans (Chg.of_below h2 : Chg (fun b => b = g) w1 w2) (fun _ _ h => h) (fun _ _ h => h)
/-- The scanner with something wrong. -/
theorem ScI.bad1 {g : Nat} {s : Sc} {w : World} (h : ScI g s w) : ScI g s.wrong (w.setCell ⟨g, 1, none⟩ (.bool true)) := by
  obtain ⟨b, off, c, hB, hne, hlt, hc, hm, hw⟩ := h
  refine ⟨b, off, c, hB.set_ 1 _, hne, by simpa using hlt, hc, hm, fun j x hx => ?_⟩
  rw [World.cell?_of_block (w := w) (a := ⟨b, off + j, none⟩) ((chg_set1 w _).block b hlt hne)]
  exact hw j x hx
theorem ScI.get {g : Nat} {s : Sc} {w : World} (h : ScI g s w) : w.cell? ⟨g, 1, none⟩ = some (.bool s.bad) ∧ g < w.heap.size ∧ ∀ j, w.frozen? ⟨g, j, none⟩ = false := by
  obtain ⟨b, off, c, hB, -⟩ := h
  exact ⟨hB.cell 1, hB.lt, fun j => hB.frozen j⟩
theorem ScI.bad2 {g : Nat} {s : Sc} {w : World} (h : ScI g s w) (v : Bool) : ScI g ⟨s.ws, v⟩ (w.setCell ⟨g, 1, none⟩ (.bool v)) := by
  obtain ⟨b, off, c, hB, hne, hlt, hc, hm, hw⟩ := h
  refine ⟨b, off, c, hB.set_ 1 _, hne, by simpa using hlt, hc, hm, fun j x hx => ?_⟩
  rw [World.cell?_of_block (w := w) (a := ⟨b, off + j, none⟩) ((chg_set1 w _).block b hlt hne)]
  exact hw j x hx

set_option maxRecDepth 100000 in
theorem scOne (g t c : Nat) (L : List (List UInt8)) (s : Sc) (w : World) (h : ScI g s w) (hn : t ≠ g) (ht : t < w.heap.size) (hL : L.length ≤ 100) (hc : ∀ (j : Nat) (x : List UInt8), L[j]? = some x → w.cell? ⟨t, j, none⟩ = some (.string ⟨x.toArray⟩)) :
    Calls Tryz.prog 108 #[.pointer (some ⟨g, 0, none⟩), .slice (some ⟨t, 0, none⟩) L.length c] w fun e w' => e = .returned (.int .i64 (oneP (atOf L) s).1) ∧ ScI g (oneP (atOf L) s).2 w' ∧ Chg (fun b => b = g) w w' := by
  have CN := scNext g s w h
  have HC := Lib.hid hc
  have CX : ∀ W, Chg (fun b => b = g) w W → Calls Tryz.prog 129 #[.slice (some ⟨t, 0, none⟩) L.length c, .string ⟨(nextP s).1.toArray⟩] W fun e w' => e = .returned (.int .i64 (idxS L (nextP s).1)) ∧ W = w' := by
    intro W hW
    have C := Tryz.slices_Index_string t 0 L.length c (L.map fun y => ⟨y.toArray⟩) ⟨(nextP s).1.toArray⟩ W (by simp) (by omega) (fun j hj => by
      rw [List.length_map] at hj
      rw [Nat.zero_add, World.cell?_of_block (w := w) (a := ⟨t, j, none⟩) (hW.block t ht hn), HC.out j L[j] (List.getElem?_eq_getElem hj)]
      simp [List.getD_eq_getElem?_getD, hj])
    rw [List.take_of_length_le (by simp)] at C
    exact C.mono fun e w' ⟨h1, h2⟩ => ⟨h1, h2.symm⟩
  have HCN := Lib.hid CN
  have HCX := Lib.hid CX
  clear CN CX h hc
  by_cases hb : idxS L (nextP s).1 < 0 ∨ (nextP s).1 = []
  · have HR : Hid ((oneP (atOf L) s) = (0, (nextP s).2.wrong)) := Lib.hid (by unfold oneP atOf; rw [if_pos hb])
    rw [HR.out]
    simp only
    have HB := Lib.hid hb
    generalize idxS L (nextP s).1 = k at *
    have hx := Lib.hid (rfl : (nextP s).1 = (nextP s).1)
    clear hx
    by_cases hk : k < 0
    · go_enter Tryz.func108, Tryz.ntmps108
      go_wp2_with fail
      refine HCN.out.mono ?_
      rintro e w1 ⟨rfl, hs, hch⟩
      have HS := Lib.hid hs
      have HG := Lib.hid hch
      obtain ⟨c1, cl, cf⟩ := HS.out.get
      clear hs hch
      go_wp2_with ((with_reducible refine (HCX.out _ HG.out).mono ?_); rintro e w' ⟨rfl, rfl⟩)
      go_ret
      exact ⟨rfl, HS.out.bad1, chg_tr HG.out (chg_set1 _ _)⟩
    · have hx : (nextP s).1 = [] := HB.out.resolve_left hk
      rw [hx] at HCN HCX
      go_enter Tryz.func108, Tryz.ntmps108
      go_wp2_with fail
      refine HCN.out.mono ?_
      rintro e w1 ⟨rfl, hs, hch⟩
      have HS := Lib.hid hs
      have HG := Lib.hid hch
      obtain ⟨c1, cl, cf⟩ := HS.out.get
      clear hs hch
      go_wp2_with ((with_reducible refine (HCX.out _ HG.out).mono ?_); rintro e w' ⟨rfl, rfl⟩)
      go_ret
      exact ⟨rfl, HS.out.bad1, chg_tr HG.out (chg_set1 _ _)⟩
  · have HR : Hid ((oneP (atOf L) s) = (idxS L (nextP s).1, (nextP s).2)) := Lib.hid (by unfold oneP atOf; rw [if_neg hb])
    rw [HR.out]
    simp only
    simp only [not_or] at hb
    obtain ⟨hk, hx⟩ := hb
    have hx2 : ((nextP s).1 == []) = false := by simpa using hx
    have hx3 : ((nextP s).1 != []) = true := by simpa using hx
    clear hx
    generalize idxS L (nextP s).1 = k at *
    generalize (nextP s).1 = u at *
    go_enter Tryz.func108, Tryz.ntmps108
    go_wp2_with fail
    refine HCN.out.mono ?_
    rintro e w1 ⟨rfl, hs, hch⟩
    have HS := Lib.hid hs
    have HG := Lib.hid hch
    clear hs hch
    go_wp2_with ((with_reducible refine (HCX.out _ HG.out).mono ?_); rintro e w' ⟨rfl, rfl⟩)
    go_ret
    exact ⟨rfl, HS.out, HG.out⟩

def varL : List (List UInt8) := [[97], [98], [99], [100]]
theorem mk_ne {x y : List UInt8} (h : x ≠ y) : (⟨x.toArray⟩ : ByteArray) ≠ ⟨y.toArray⟩ := fun e => h (by
  have := congrArg (fun b : ByteArray => b.data.toList) e
  simpa using this)
/-- Which of some words a word is. -/
def posS : List (List UInt8) → List UInt8 → Nat → Option Nat
  | [], _, _ => none
  | y :: ys, x, i => if y = x then some i else posS ys x (i + 1)
theorem idxFrom_pos (x : List UInt8) : ∀ (L : List (List UInt8)) (i : Nat), Lib.idxFromS (L.map fun y => ⟨y.toArray⟩) ⟨x.toArray⟩ i = match posS L x i with | some k => (k : Int) | none => -1
  | [], i => rfl
  | y :: ys, i => by
    have ih := idxFrom_pos x ys (i + 1)
    simp only [List.map_cons, Lib.idxFromS, posS]
    by_cases h : y = x
    · subst h
      simp
    · have h2 := mk_ne h
      simp only [h, if_false]
      rw [if_neg (by simpa using h2)]
      exact ih
theorem atOf_var (x : List UInt8) : atOf varL x = varAt x := by
  unfold atOf idxS Lib.idxOfS
  rw [idxFrom_pos]
  unfold varAt
  by_cases h1 : x = [97]
  · subst h1; rfl
  by_cases h2 : x = [98]
  · subst h2; rfl
  by_cases h3 : x = [99]
  · subst h3; rfl
  by_cases h4 : x = [100]
  · subst h4; rfl
  simp [posS, varL, Ne.symm h1, Ne.symm h2, Ne.symm h3, Ne.symm h4, h1, h2, h3, h4]
theorem atOf_rel (x : List UInt8) : atOf relsL x = relAt x := by
  unfold atOf idxS Lib.idxOfS
  rw [idxFrom_pos]
  unfold relAt
  by_cases h0 : x = []
  · subst h0; rfl
  by_cases h1 : x = [60]
  · subst h1; rfl
  by_cases h2 : x = [60, 61]
  · subst h2; rfl
  by_cases h3 : x = [61]
  · subst h3; rfl
  by_cases h4 : x = [33, 61]
  · subst h4; rfl
  simp [posS, relsL, Ne.symm h0, Ne.symm h1, Ne.symm h2, Ne.symm h3, Ne.symm h4, h0, h1, h2, h3, h4]

set_option maxRecDepth 100000 in
theorem scVar (g : Nat) (s : Sc) (w : World) (h : ScI g s w) :
    Calls Tryz.prog 77 #[.pointer (some ⟨g, 0, none⟩)] w fun e w' => e = .returned (.int .i64 (varP s).1) ∧ ScI g (varP s).2 w' ∧ Chg (fun b => b = g) w w' := by
  have e : varP s = oneP (atOf varL) s := by unfold varP; congr 1; funext x; exact (atOf_var x).symm
  rw [e]
  have gr := grew_al (Below.refl _ w) (.cells #[.string ⟨#[97]⟩, .string ⟨#[98]⟩, .string ⟨#[99]⟩, .string ⟨#[100]⟩] 9)
  have C := Lib.hid (scOne g w.heap.size 4 varL s _ (h.grew gr) (by have := h.get.2.1; omega) (by simp) (by simp [varL]) (fun j x hx => row_cell hx))
  have HG := Lib.hid gr
  clear h gr e
  go_enter Tryz.func77, Tryz.ntmps77
  go_wp2_with fail
  refine C.out.mono ?_
  rintro e w1 ⟨rfl, hs, hch⟩
  have HS := Lib.hid hs
  have HC := Lib.hid (((Chg.of_below HG.out : Chg (fun b => b = g) _ _)).trans hch (fun _ _ h => h) (fun _ _ h => h))
  clear hs hch
  go_wp2
  go_ret
  exact ⟨rfl, HS.out, HC.out⟩
theorem implRelsN (w : World) : Calls Tryz.prog 95 #[] w fun e w' => ∃ v, e = .returned v ∧ RowS w.heap.size 5 5 relsL w' v ∧ Grew w w' := by
  go_enter Tryz.func95, Tryz.ntmps95
  go_wp2
  go_ret
  exact ⟨_, rfl, rowS_newG (Below.refl _ _) rfl, gr⟩
set_option maxRecDepth 100000 in
theorem scRel (g : Nat) (s : Sc) (w : World) (h : ScI g s w) :
    Calls Tryz.prog 86 #[.pointer (some ⟨g, 0, none⟩)] w fun e w' => e = .returned (.int .i64 (relP s).1) ∧ ScI g (relP s).2 w' ∧ Chg (fun b => b = g) w w' := by
  have e : relP s = oneP (atOf relsL) s := by unfold relP; congr 1; funext x; exact (atOf_rel x).symm
  rw [e]
  have CR := Lib.hid fun w => implRelsN w
  have HI := Lib.hid h
  clear h e
  go_enter Tryz.func86, Tryz.ntmps86
  go_wp2_with fail
  refine (CR.out _).mono ?_
  rintro e w1 ⟨v, rfl, ⟨t, rfl, hB, hlt, hc⟩, g1⟩
  have C := Lib.hid (scOne g t 5 relsL s _ (HI.out.grew g1) (by have := HI.out.get.2.1; omega) hlt (by simp [relsL]) hc)
  have HG := Lib.hid g1
  clear hB hlt hc g1
  go_wp2_with fail
  refine C.out.mono ?_
  rintro e w2 ⟨rfl, hs, hch⟩
  have HS := Lib.hid hs
  have HC := Lib.hid (((Chg.of_below HG.out : Chg (fun b => b = g) _ _)).trans hch (fun _ _ h => h) (fun _ _ h => h))
  clear hs hch
  go_wp2
  go_ret
  exact ⟨rfl, HS.out, HC.out⟩
theorem numP_get (s : Sc) : (numP s).1 = (readN (nextP s).1).getD 0 ∧ (numP s).2 = ⟨(nextP s).2.ws, (nextP s).2.bad || !(readN (nextP s).1).isSome⟩ := by
  unfold numP oneP
  cases readN (nextP s).1 with
  | none => simp [Sc.wrong]
  | some n => simp
/-- What the numbers want of the world. -/
def Env (w : World) : Prop := Tab w ∧ Errs w
def Apart (g : Nat) : Prop := g ≠ 1 ∧ g ≠ 7 ∧ g ≠ 8
theorem Env.grew {w w' : World} (h : Env w) (g : Grew w w') : Env w' := ⟨h.1.grew g, h.2.grew g⟩
theorem Env.chg {g : Nat} {w w' : World} (h : Env w) (c : Chg (fun b => b = g) w w') (ha : Apart g) : Env w' := by
  obtain ⟨T, ⟨a1, b1, h1⟩, a2, b2, h2⟩ := h
  obtain ⟨n1, n2, n3⟩ := ha
  refine ⟨?_, ⟨a1, b1, ?_⟩, a2, b2, ?_⟩
  · unfold Tab Lib.TabIs World.var? at *
    rw [gTab] at T ⊢
    simp only [Option.bind_some] at T ⊢
    have hlt : 1 < w.heap.size := by
      rcases Nat.lt_or_ge 1 w.heap.size with h' | h'
      · exact h'
      · rw [Array.getElem?_eq_none h'] at T; cases T
    rw [c.block _ hlt (Ne.symm n1)]
    exact T
  · exact (World.cell?_of_block (c.block _ (World.block_lt_of_cell? w _ h1) (Ne.symm n2))).trans h1
  · exact (World.cell?_of_block (c.block _ (World.block_lt_of_cell? w _ h2) (Ne.symm n3))).trans h2
theorem Env.apart {w : World} {g : Nat} (h : Env w) (hg : w.heap.size ≤ g) : Apart g := by
  obtain ⟨T, ⟨a1, b1, h1⟩, a2, b2, h2⟩ := h
  have k1 := World.block_lt_of_cell? w _ h1
  have k2 := World.block_lt_of_cell? w _ h2
  have k3 : 1 < w.heap.size := by
    unfold Tab Lib.TabIs World.var? at T
    rw [gTab] at T
    simp only [Option.bind_some] at T
    rcases Nat.lt_or_ge 1 w.heap.size with h' | h'
    · exact h'
    · rw [Array.getElem?_eq_none h'] at T; cases T
  simp only at k1 k2
  exact ⟨by omega, by omega, by omega⟩
def ShortW (ws : List (List UInt8)) : Prop := ∀ x, x ∈ ws → x.length ≤ 1100000
theorem short_next {s : Sc} (h : ShortW s.ws) : (nextP s).1.length ≤ 1100000 := by
  obtain ⟨ws, bad⟩ := s
  cases ws with
  | nil => simp [nextP]
  | cons x r => exact h x (by simp)

set_option maxRecDepth 100000 in
theorem scNum (g : Nat) (s : Sc) (w : World) (h : ScI g s w) (hs : ShortW s.ws) (E : Env w) (ha : Apart g) :
    Calls Tryz.prog 78 #[.pointer (some ⟨g, 0, none⟩)] w fun e w' => e = .returned (.int .i64 (numP s).1) ∧ ScI g (numP s).2 w' ∧ Chg (fun b => b = g) w w' := by
  obtain ⟨e1, e2⟩ := numP_get s
  rw [e1, e2]
  have HCN := Lib.hid (scNext g s w h)
  have CR := Lib.hid fun w (E : Env w) => implNumRead (nextP s).1 w (short_next hs) E.1 E.2
  have HE := Lib.hid E
  have HA := Lib.hid ha
  clear h hs E ha e1 e2
  generalize (readN (nextP s).1).getD 0 = n at *
  generalize (readN (nextP s).1).isSome = ok at *
  go_enter Tryz.func78, Tryz.ntmps78
  go_wp2_with fail
  refine HCN.out.mono ?_
  rintro e w1 ⟨rfl, hs, hch⟩
  have HS := Lib.hid hs
  have HG := Lib.hid hch
  clear hs hch
  go_wp2_with fail
  refine Calls.mono (CR.out _ (HE.out.chg HG.out HA.out)) ?_
  rintro e w2 ⟨rfl, g2⟩
  have HS2 := Lib.hid (HS.out.grew g2)
  have HG2 := Lib.hid (chg_gw HG.out g2)
  clear g2 HS HG
  obtain ⟨c1, cl, cf⟩ := HS2.out.get
  cases hb : (nextP s).2.bad <;> cases ok
  all_goals
    rw [hb] at c1
    go_wp2
    go_ret
    exact ⟨rfl, by rw [hb]; exact HS2.out.bad2 _, chg_tr HG2.out (chg_set1 _ _)⟩
end Go.Proofs.YtcdfomoglkhboaaGreatDoor
