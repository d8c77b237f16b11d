/- The program's reader of a program's lines: a line, and a line of words and numbers; for lines that are right. The numbers want the table, the two errors and strings.Split's bound. -/
import Derived.Test.YtcdfomoglkhboaaGreatDoorTir
import Derived.Test.YtcdfomoglkhboaaGreatDoorDraw
import Derived.Test.YtcdfomoglkhboaaGreatDoorPp
namespace Go.Proofs.YtcdfomoglkhboaaGreatDoor
open Go.RowKit Go.Lib
set_option linter.unusedVariables false
set_option linter.unusedSimpArgs false
attribute [local go_sem] ext_cell ext_frozen ext_lt ext_le ext_le1 lt_s2 lt_s3 lt_s4 lt_s5 lt_s6 ext_lt1 ext_lt2 ext_lt3

/-- The parser's block, and that nothing ahead of it has changed. -/
def PaS (W0 : World) (g t n c k : Nat) (w : World) : Prop := Blk w g 65 #[.slice (some ⟨t, 0, none⟩) n c, .int .i64 k] ∧ Grew W0 w
theorem PaS.grew {W0 : World} {g t n c k : Nat} {w w' : World} (h : PaS W0 g t n c k w) (k' : Grew w w') : PaS W0 g t n c k w' := ⟨h.1.grew k', grew_tr h.2 k'⟩
/-- The lines. -/
def Lns (t : Nat) (ls : List (List UInt8)) (w : World) : Prop := ∀ (j : Nat) (y : List UInt8), ls[j]? = some y → w.cell? ⟨t, j, none⟩ = some (.string ⟨y.toArray⟩)

set_option maxRecDepth 100000 in
theorem paLine (W0 : World) (g t n c k : Nat) (ls : List (List UInt8)) (x : List UInt8) (w : World) (h : PaS W0 g t n c k w) (hg : W0.heap.size ≤ g) (hL : Lns t ls W0) (hn : ls.length = n) (hx : ls[k]? = some x) (hm : n ≤ 1000000) (hnc : n ≤ c) :
    Calls Tryz.prog 99 #[.pointer (some ⟨g, 0, none⟩)] w fun e w' => e = .returned (.tuple #[.string ⟨x.toArray⟩, .nilIface]) ∧ PaS W0 g t n c (k + 1) w' ∧ ChgG g w w' := by
  obtain ⟨hB, h0⟩ := h
  have hk : k < n := by rw [← hn]; exact (List.getElem?_eq_some_iff.1 hx).1
  have q := hL k x hx
  have tl := World.block_lt_of_cell? W0 _ q
  simp only at tl
  have q1 := gk h0 q
  have hne : ¬ t = g := by omega
  have hf := fun j => hB.frozen j
  have c0 := hB.cell 0
  have c1 := hB.cell 1
  simp only [List.getElem?_toArray, List.getElem?_cons_zero, List.getElem?_cons_succ] at c0 c1
  have gl := hB.lt
  have HB := Lib.hid hB
  have H0 := Lib.hid h0
  have HG := Lib.hid hg
  clear hB h0 hg q hL hn hx
  go_enter Tryz.func99, Tryz.ntmps99
  go_wp2
  go_quiet (fail)
  go_wp2
  go_quiet (fail)
  go_wp2
  go_returns
  refine ⟨rfl, PaS.grew ⟨?_, grew_set H0.out HG.out _⟩ (grew_tr (grew_drewN _ _) (grew_drewN _ _)), chg_gw (chg_set1 _ _) (grew_tr (grew_drewN _ _) (grew_drewN _ _))⟩
  have := HB.out.set_ 1 (.int .i64 ((k + 1 : Nat) : Int))
  simpa using this

/-- The numbers of the first k words. -/
def numsK (fs ws : List (List UInt8)) (k : Nat) : List Int := ((fs.zip ws).take k).filterMap fun p => if p.1 = [35] then readN p.2 else none
theorem numsK_hit {fs ws : List (List UInt8)} {k : Nat} {y : List UInt8} {v : Int} (hf : fs[k]? = some [35]) (hw : ws[k]? = some y) (hv : readN y = some v) : numsK fs ws (k + 1) = numsK fs ws k ++ [v] := by
  unfold numsK
  have hz : (fs.zip ws)[k]? = some ([35], y) := by rw [List.getElem?_zip_eq_some]; exact ⟨hf, hw⟩
  rw [List.take_add_one, hz]
  simp [hv]
theorem numsK_miss {fs ws : List (List UInt8)} {k : Nat} {f y : List UInt8} (hf : fs[k]? = some f) (hw : ws[k]? = some y) (hv : f ≠ [35]) : numsK fs ws (k + 1) = numsK fs ws k := by
  unfold numsK
  have hz : (fs.zip ws)[k]? = some (f, y) := by rw [List.getElem?_zip_eq_some]; exact ⟨hf, hw⟩
  rw [List.take_add_one, hz]
  simp [hv]
theorem numsK_le (fs ws : List (List UInt8)) (k : Nat) : (numsK fs ws k).length ≤ k := by
  unfold numsK
  refine Nat.le_trans (List.length_filterMap_le _ _) ?_
  rw [List.length_take]
  omega

set_option maxRecDepth 100000 in
set_option maxHeartbeats 4000000 in
theorem paNumbers (W0 : World) (g t n c k : Nat) (ls : List (List UInt8)) (form x : List UInt8) (fs ws : List (List UInt8)) (w : World) (h : PaS W0 g t n c k w) (hg : W0.heap.size ≤ g) (hL : Lns t ls W0) (hn : ls.length = n) (hx : ls[k]? = some x) (hm : n ≤ 1000000) (hnc : n ≤ c)
    (hf : split form [32] = fs) (hw : split x [32] = ws) (hfl : form.length ≤ 1000) (hxl : x.length ≤ 1000) (hll : ws.length = fs.length) (hl : fs.length ≤ 100) (hws : ∀ y, y ∈ ws → y.length ≤ 1000)
    (hok : ∀ (j : Nat) (f y : List UInt8), fs[j]? = some f → ws[j]? = some y → if f = [35] then (readN y).isSome = true else f = y) (En : Env W0) (ML : MaxL W0) :
    Calls Tryz.prog 63 #[.pointer (some ⟨g, 0, none⟩), .string ⟨form.toArray⟩] w fun e w' => ∃ v, e = .returned (.tuple #[v, .nilIface]) ∧
      w'.ownsRow w.heap.size 3 1 v (numsK fs ws fs.length).length (ints .i64 (numsK fs ws fs.length)) ∧ PaS W0 g t n c (k + 1) w' ∧ ChgG g w w' := by
  have HP := Lib.hid (paLine W0 g t n c k ls x w h hg hL hn hx hm hnc)
  have CF := fun w M => implSplit form w (by omega) M
  have CX := fun w M => implSplit x w (by omega) M
  rw [hf] at CF
  rw [hw, hll] at CX
  have HCF := Lib.hid CF
  have HCX := Lib.hid CX
  have HOK := Lib.hid hok
  have HWS := Lib.hid hws
  have HLL := Lib.hid hll
  have HEn := Lib.hid En
  have HML := Lib.hid ML
  obtain ⟨N, hN⟩ : ∃ N, fs.length = N := ⟨_, rfl⟩
  rw [hN] at HCF HCX hl
  have HN := Lib.hid hN
  rw [hN]
  clear CF CX hok hws hll En ML h hg hL hn hx hf hw hfl hxl hN
  go_enter Tryz.func63, Tryz.ntmps63
  go_wp2_with fail
  refine HP.out.mono ?_
  rintro e w1 ⟨rfl, hS, hC⟩
  have HS1 := Lib.hid hS
  have HC1 := Lib.hid hC
  clear hS hC HP
  go_wp2_with fail
  refine (HCF.out _ (HML.out.grew HS1.out.2)).mono ?_
  rintro e w2 ⟨v, rfl, ⟨t1, rfl, hB, hlt, hc⟩, g2⟩
  have HF := Lib.hid hc
  have G2 := Lib.hid g2
  clear hB hlt hc g2
  go_wp2_with fail
  refine (HCX.out _ (HML.out.grew (grew_tr HS1.out.2 G2.out))).mono ?_
  rintro e w3 ⟨v, rfl, ⟨t2, rfl, hB, hlt, hc⟩, g3⟩
  have HX := Lib.hid hc
  have HF3 := Lib.hid (fun j f hj => gk g3 (HF.out j f hj))
  have G3 := Lib.hid (grew_tr G2.out g3)
  clear hB hlt hc g3 HF G2 HCF HCX
  have HE3 := Lib.hid (HEn.out.grew (grew_tr HS1.out.2 G3.out))
  have HO := Lib.hid (World.ownsRow_nil w3 w3.heap.size 3 1)
  go_wp2
  go_loopw [10, 36] (fun out i wr => ∃ j : Nat, j ≤ N ∧ i = .int .i64 j ∧ Grew w3 wr ∧ ∃ (M : Nat) (a1 : Option Addr) (cp : Nat), out = .slice a1 M cp ∧ M = (numsK fs ws j).length ∧ wr.ownsRow w3.heap.size 3 1 (.slice a1 M cp) M (ints .i64 (numsK fs ws j))) (fun _ i _ => N - (Go.RowKit.intOf i).toNat)
  case atStart => exact ⟨0, Nat.zero_le _, rfl, Below.refl _ _, 0, none, 0, rfl, by simp [numsK], by simpa [numsK, ints] using HO.out⟩
  case round =>
    obtain ⟨j, hj, rfl, hg, M, a1, cp, rfl, hM, hO⟩ := hrel
    have HG := Lib.hid hg
    have HO := Lib.hid hO
    have hMs : M ≤ 100 := by have := numsK_le fs ws j; omega
    have HM := Lib.hid hM
    clear hg hO hM
    by_cases hlt : j < N
    · obtain ⟨f, hfj⟩ : ∃ f, fs[j]? = some f := ⟨_, List.getElem?_eq_getElem (by have := HN.out; omega)⟩
      obtain ⟨y, hyj⟩ : ∃ y, ws[j]? = some y := ⟨_, List.getElem?_eq_getElem (by have := HN.out; have := HLL.out; omega)⟩
      have ho := HOK.out j f y hfj hyj
      have hyl := HWS.out y (List.mem_of_getElem? hyj)
      have CR := fun w T E => implNumRead y w (by omega) T E
      have q1 := gk HG.out (HF3.out j f hfj)
      have q2 := gk HG.out (HX.out j y hyj)
      by_cases h35 : f = [35]
      · subst h35
        rw [if_pos rfl] at ho
        obtain ⟨v, hv⟩ := Option.isSome_iff_exists.1 ho
        rw [hv] at CR
        simp only [Option.getD_some, Option.isSome_some] at CR
        have HCR := Lib.hid CR
        have HST := Lib.hid (numsK_hit hfj hyj hv)
        clear CR ho hyl hfj hyj hv
        go_wp2_with fail
        refine (HCR.out _ (HE3.out.grew HG.out).1 (HE3.out.grew HG.out).2).mono ?_
        rintro e w4 ⟨rfl, g4⟩
        have q3 := gk g4 q1
        have HO4 := Lib.hid (owns_grew HO.out g4)
        have HG4 := Lib.hid (grew_tr HG.out g4)
        clear g4 q1 q2 HCR HO HG
        obtain ⟨v5, w5, hrun, o5, g5, hv5⟩ := owns_append_lit (P := Tryz.prog) w4 intEl HO4.out 1 [.int .i64 v] rfl (by simp [Value.oneCell']) (by omega) (by omega) HG4.out.size
        obtain ⟨a5, c5, rfl⟩ := owns_slice o5
        have HG5 := Lib.hid (grew_own HG4.out HO4.out (Chg.of_grownBy g5))
        have HO5 := Lib.hid o5
        have R := Lib.hid hrun
        clear hrun o5 g5 hv5
        go_wp2_with (at_builtin; refine wpList_append_run rfl _ _ rfl rfl rfl rfl R.out ?_)
        clear R
        go_roundw
        case rel => exact ⟨j + 1, by omega, by go_num, HG5.out, M + 1, a5, c5, rfl, by rw [HST.out, List.length_append, ← HM.out]; rfl, by rw [HST.out]; simpa [ints] using HO5.out⟩
        case measure => simp [Go.RowKit.intOf]; omega
      · rw [if_neg h35] at ho
        subst ho
        have HST := Lib.hid (numsK_miss hfj hyj h35)
        have t1' : (f == [35]) = false := by simpa using h35
        have t2' : (f == f) = true := by simp
        generalize (readN f).getD 0 = m at CR
        generalize (readN f).isSome = bb at CR
        have HCR := Lib.hid CR
        clear CR hyl hfj hyj h35
        go_wp2_with fail
        refine (HCR.out _ (HE3.out.grew HG.out).1 (HE3.out.grew HG.out).2).mono ?_
        rintro e w4 ⟨rfl, g4⟩
        have q3 := gk g4 q1
        have HO4 := Lib.hid (owns_grew HO.out g4)
        have HG4 := Lib.hid (grew_tr HG.out g4)
        clear g4 q1 q2 HCR HO HG
        go_wp2
        go_roundw
        case rel => exact ⟨j + 1, by omega, by go_num, HG4.out, M, a1, cp, rfl, by rw [HST.out, ← HM.out], by rw [HST.out]; exact HO4.out⟩
        case measure => simp [Go.RowKit.intOf]; omega
    · obtain rfl : j = N := by omega
      go_wp2
      go_returns
      refine ⟨.slice a1 M cp, rfl, ?_, HS1.out.grew (grew_tr G3.out HG.out), chg_gw HC1.out (grew_tr G3.out HG.out)⟩
      rw [← HM.out]
      exact owns_mono HO.out (Nat.le_trans HC1.out.size G3.out.size)
end Go.Proofs.YtcdfomoglkhboaaGreatDoor
