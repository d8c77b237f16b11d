/- Lemmas and walks of this proof, some texts one behind the other. No condition. -/
import Derived.Test.YtcdfomoglkhboaaGreatDoorPrgOkI
import Derived.Test.YtcdfomoglkhboaaGreatDoorRgA
import Derived.Test.YtcdfomoglkhboaaGreatDoorTip
import Derived.Test.YtcdfomoglkhboaaGreatDoorTxE
set_option linter.unusedSimpArgs false
set_option linter.unusedVariables false
/- How many steps a program has: PrgSize of the program. No condition. -/
namespace Go.Proofs.YtcdfomoglkhboaaGreatDoor
open Go.RowKit
set_option linter.unusedVariables false
set_option linter.unusedSimpArgs false
attribute [local go_sem] ext_cell ext_frozen ext_lt ext_le ext_le1 lt_s2 lt_s3 lt_s4 lt_s5 lt_s6 ext_lt1 ext_lt2 ext_lt3

def sizeL (ps : List Prc) : Nat := (ps.map fun p => p.code.length).sum
theorem sizeL_take {ps : List Prc} {k : Nat} {p : Prc} (h : ps[k]? = some p) : sizeL (ps.take (k + 1)) = sizeL (ps.take k) + p.code.length := by
  unfold sizeL
  rw [List.take_add_one, h]
  simp
theorem implPrgSize (a : Option Addr) (n cap : Nat) (ps : List Prc) (w : World) (hr : RdP w a n ps) (hn : n ≤ 5) (hl : ∀ p, p ∈ ps → p.code.length ≤ 12) :
    Calls Tryz.prog 14 #[.agg #[.slice a n cap]] w fun e w' => e = .returned (.int .i64 (sizeL ps : Nat)) ∧ Grew w w' := by
  have HL := Lib.hid hr.len
  have HR := Lib.hid hr; clear hr
  have HM := Lib.hid hl; clear hl
  have hn63 : n ≤ 9223372036854775807 := by omega
  have HB : Hid (Grew w (w.alloc (.cells #[.slice a n cap] 25))) := Lib.hid (grew_al (Below.refl _ _) _)
  go_enter Tryz.func14, Tryz.ntmps14
  go_wp2
  go_loopw [3, 9] (fun m i wr => ∃ k s : Nat, k ≤ n ∧ s ≤ 12 * k ∧ s = sizeL (ps.take k) ∧ i = .int .i64 k ∧ m = .int .i64 s ∧ Grew w wr) (fun _ i _ => n - (intOf i).toNat)
  case atStart => exact ⟨0, 0, Nat.zero_le _, Nat.zero_le _, rfl, rfl, rfl, HB.out⟩
  case round =>
    obtain ⟨k, s, hk, hs, hse, rfl, rfl, hg⟩ := hrel
    by_cases hlt : k < n
    · obtain ⟨b, off, lo, hi, is, ia, ic, rfl, hx, c0, c1, c2, hb, hi1, hi2, hi3⟩ := rdP_at (HR.out.grew hg) hlt
      have HS := Lib.hid (hse ▸ (sizeL_take hx).symm : s + is.length = sizeL (ps.take (k + 1)))
      have hil : is.length ≤ 12 := HM.out _ (List.mem_of_getElem? hx)
      have HG := Lib.hid hg
      obtain ⟨q0, q1, q2⟩ := lt3 hb
      have hw : IntKind.i64.wrap ((s : Int) + (is.length : Int)) = ((s + is.length : Nat) : Int) := by rw [show (s : Int) + (is.length : Int) = ((s + is.length : Nat) : Int) from by omega]; first | exact IntWalk.i64_in (by omega) (by omega) | exact IntWalk.i64_in _ (by omega) (by omega) | go_unwrap
      have hil63 : is.length ≤ 9223372036854775807 := by omega
      clear hx hse hg hi1 hi2 hi3
      go_wp2
      go_roundw
      case rel => exact ⟨k + 1, s + is.length, by omega, by omega, HS.out, by go_num, by first | rfl | (simp only [hw]) | simp, grew_al HG.out _⟩
      case measure => (simp [intOf]; try omega)
    · obtain rfl : k = n := by omega
      have hfin : s = sizeL ps := by rw [hse, List.take_of_length_le (by have := HL.out; omega)]
      have HG := Lib.hid hg
      clear hse hg
      subst hfin
      go_wp2
      go_ret
      exact ⟨rfl, HG.out⟩
end Go.Proofs.YtcdfomoglkhboaaGreatDoor

/- Texts and programs compared by the laws: the same ones are found the same. No condition. -/
namespace Go.Proofs.YtcdfomoglkhboaaGreatDoor
open Go.RowKit Go.Lib
set_option linter.unusedVariables false
set_option linter.unusedSimpArgs false
attribute [local go_sem] ext_cell ext_frozen ext_lt ext_le ext_le1 lt_s2 lt_s3 lt_s4 lt_s5 lt_s6 ext_lt1 ext_lt2 ext_lt3

theorem wp_letO {P : Program} {c : Code} {Q : Exit → Act → World → Prop} {a : Act} {W : World} (h : ∀ E, E = W → c.wp P Q a E) : c.wp P Q a W := h W rfl
theorem owTextsS (a : Option Addr) (n cap : Nat) (a' : Option Addr) (cap' : Nat) (zs : List (List UInt8)) (w : World) (hr : Rd w a n 1 (strs zs)) (hr' : Rd w a' n 1 (strs zs)) (hm : n ≤ 140737488355328) :
    Calls Tryz.prog 8 #[.slice a n cap, .slice a' n cap'] w fun e w' => e = .returned (.bool true) ∧ Grew w w' := by
  have HR := Lib.hid hr; clear hr
  have HR' := Lib.hid hr'; clear hr'
  go_enter Tryz.func8, Tryz.ntmps8
  go_wp2
  go_loopw [5] (fun i wr => ∃ k : Nat, k ≤ n ∧ i = .int .i64 k ∧ (∃ q, wr = w.drewN q)) (fun i _ => n - (Go.RowKit.intOf i).toNat)
  case atStart => exact ⟨0, Nat.zero_le _, rfl, ⟨0, rfl⟩⟩
  case round =>
    obtain ⟨k, hk, rfl, ⟨q, rfl⟩⟩ := hrel
    by_cases hlt : k < n
    · obtain ⟨b, off, x, rfl, hx, hcell⟩ := HR.out.atS hlt
      obtain ⟨b', off', y, rfl, hy, hcell'⟩ := HR'.out.atS hlt
      rw [hx] at hy
      obtain rfl := Option.some.inj hy
      have bx : (x != x) = false := by simp
      clear hx hy
      go_wp2
      go_quiet (fail)
      go_wp2
      go_roundw
      case rel => exact ⟨k + 1, by omega, by go_num, ⟨_, rfl⟩⟩
      case measure => simp [Go.RowKit.intOf]; omega
    · go_wp2
      go_ret
      exact ⟨rfl, grew_drewN _ _⟩

set_option maxRecDepth 100000 in
set_option maxHeartbeats 4000000 in
theorem owProgS (a : Option Addr) (n cap : Nat) (a' : Option Addr) (cap' : Nat) (ps : List Prc) (w : World) (hr : RdP w a n ps) (hr' : RdP w a' n ps) (hm : n ≤ 140737488355328) :
    Calls Tryz.prog 13 #[.agg #[.slice a n cap], .agg #[.slice a' n cap']] w fun e w' => e = .returned (.bool true) ∧ Grew w w' := by
  have HR := Lib.hid hr; clear hr
  have HR' := Lib.hid hr'; clear hr'
  have HB2 := Lib.hid ((Blk.new w 25 #[.slice a n cap]).alloc (.cells #[.slice a' n cap'] 25))
  have HB3 := Lib.hid (Blk.new (w.alloc (.cells #[.slice a n cap] 25)) 25 #[.slice a' n cap'])
  have HG := Lib.hid (show Grew w ((w.alloc (.cells #[.slice a n cap] 25)).alloc (.cells #[.slice a' n cap'] 25)) from grew_al (grew_al (Below.refl _ w) _) _)
  simp only [World.size_alloc] at HB3
  go_enter Tryz.func13, Tryz.ntmps13
  go_wp2
  go_loopw [5] (fun i wr => ∃ k : Nat, k ≤ n ∧ i = .int .i64 k ∧ Grew w wr ∧ Blk wr w.heap.size 25 #[.slice a n cap] ∧ Blk wr (w.heap.size + 1) 25 #[.slice a' n cap']) (fun i _ => n - (Go.RowKit.intOf i).toNat)
  case atStart => exact ⟨0, Nat.zero_le _, rfl, HG.out, HB2.out, HB3.out⟩
  case round =>
    clear HG HB2 HB3
    obtain ⟨k, hk, rfl, hg, hb2, hb3⟩ := hrel
    have c2 := hb2.cell 0
    have l2 := hb2.lt
    have c3 := hb3.cell 0
    have l3 := hb3.lt
    simp only [List.getElem?_toArray, List.getElem?_cons_zero] at c2 c3
    have HG := Lib.hid hg
    have HB2 := Lib.hid hb2
    have HB3 := Lib.hid hb3
    clear hb2 hb3
    by_cases hlt : k < n
    · obtain ⟨b, off, lo, hi, is, ia, ic, rfl, hx, p0, p1, p2, hb, hi1, hi2, hi3⟩ := rdP_at (HR.out.grew hg) hlt
      obtain ⟨b', off', lo', hi', is', ia', ic', rfl, hx', q0, q1, q2, hb', hj1, hj2, hj3⟩ := rdP_at (HR'.out.grew hg) hlt
      rw [hx] at hx'
      obtain ⟨rfl, rfl, rfl⟩ := Prc.mk.inj (Option.some.inj hx')
      obtain ⟨N, hN⟩ : ∃ N, is.length = N := ⟨_, rfl⟩
      rw [hN] at p2 q2 hi1 hj1 hi2 hj2
      have HI := Lib.hid hi1
      have HJ := Lib.hid hj1
      have hN63 : N ≤ 9223372036854775807 := by unfold maxLen at hi3; omega
      obtain ⟨r0, r1, r2⟩ := lt3 hb
      obtain ⟨s0, s1, s2⟩ := lt3 hb'
      clear hx hx' hi1 hj1 hi2 hj2 hi3 hj3 hg
      go_upto_region 8 with fail
      refine wp_letO ?_
      intro E hE
      have HX6 := Lib.hid (show Blk E wr.heap.size 56 #[.int .i64 lo, .int .i64 hi, .slice ia N ic] by rw [hE]; exact (Blk.new wr _ _).alloc _)
      have HX7 := Lib.hid (show Blk E (wr.heap.size + 1) 56 #[.int .i64 lo, .int .i64 hi, .slice ia' N ic'] by rw [hE]; have := Blk.new (wr.alloc (.cells #[.int .i64 lo, .int .i64 hi, .slice ia N ic] 56)) 56 #[.int .i64 lo, .int .i64 hi, .slice ia' N ic']; simpa only [World.size_alloc] using this)
      have g1 : Grew wr E := by rw [hE]; exact grew_al (grew_al (Below.refl _ wr) _) _
      have HGE := Lib.hid (grew_tr HG.out g1)
      have HBE2 := Lib.hid (HB2.out.grew g1)
      have HBE3 := Lib.hid (HB3.out.grew g1)
      have HIE := Lib.hid (HI.out.grew stays_ins g1)
      have HJE := Lib.hid (HJ.out.grew stays_ins g1)
      obtain ⟨b6, hb6⟩ : ∃ b, wr.heap.size = b := ⟨_, rfl⟩
      simp only [hb6] at HX6 HX7 ⊢
      clear hE g1 HG HB2 HB3 HI HJ p0 p1 p2 q0 q1 q2 c2 c3 l2 l3 r0 r1 r2 s0 s1 s2 hb hb' hb6
      have x0 := HX6.out.cell 0
      have x1 := HX6.out.cell 1
      have x2 := HX6.out.cell 2
      have xl := HX6.out.lt
      have y0 := HX7.out.cell 0
      have y1 := HX7.out.cell 1
      have y2 := HX7.out.cell 2
      have yl := HX7.out.lt
      simp only [List.getElem?_toArray, List.getElem?_cons_zero, List.getElem?_cons_succ] at x0 x1 x2 y0 y1 y2
      go_wp2
      go_loopw [8] (fun i wq => ∃ q : Nat, q ≤ N ∧ i = .int .i64 q ∧ (∃ z, wq = E.drewN z)) (fun i _ => N - (Go.RowKit.intOf i).toNat)
      case atStart => exact ⟨0, Nat.zero_le _, rfl, ⟨0, rfl⟩⟩
      case round =>
        obtain ⟨q, hq, rfl, ⟨z, rfl⟩⟩ := hrel
        by_cases hlq : q < N
        · obtain ⟨d, of, op, dd, ja, jb, rel, lo2, hi2, tv, rfl, hy, e0, e1, e2, e3, e4, e5, e6, e7, he⟩ := rdI_at HIE.out hlq
          obtain ⟨d', of', op', dd', ja', jb', rel', lo2', hi2', tv', rfl, hy', f0, f1, f2, f3, f4, f5, f6, f7, hf⟩ := rdI_at HJE.out hlq
          rw [hy] at hy'
          obtain ⟨rfl, rfl, rfl, rfl, rfl, rfl, rfl, rfl⟩ := Ins.mk.inj (Option.some.inj hy')
          clear hy hy'
          go_wp2
          go_quiet (fail)
          go_wp2
          go_roundw
          case rel => exact ⟨q + 1, by omega, by go_num, ⟨_, rfl⟩⟩
          case measure => simp [Go.RowKit.intOf]; omega
        · go_wp2
          go_roundw
          case rel => exact ⟨k + 1, by omega, by go_num, grew_tr HGE.out (grew_drewN _ _), HBE2.out.grew (grew_drewN _ _), HBE3.out.grew (grew_drewN _ _)⟩
          case measure => simp [Go.RowKit.intOf]; omega
    · go_wp2
      go_ret
      exact ⟨rfl, HG.out⟩
end Go.Proofs.YtcdfomoglkhboaaGreatDoor

/- Texts of drawn steps: plain facts and the two contracts for small sizes. -/
namespace Go.Proofs.YtcdfomoglkhboaaGreatDoor
open Go.RowKit Go.Lib
set_option linter.unusedVariables false

theorem numOk_oneT (w : World) : Calls Tryz.prog 32 #[.int .i64 1] w fun e w' => e = .returned (.bool true) ∧ w = w' := by
  go_enter Tryz.func32, Tryz.ntmps32
  go_wp2
  go_ret
  exact ⟨rfl, rfl⟩
theorem owOkT (w : World) : Calls Tryz.prog 11 #[] w fun e w' => e = .returned (.bool true) ∧ w = w' := by
  go_enter Tryz.func11, Tryz.ntmps11
  go_wp2_with fail
  refine (numOk_oneT w).mono ?_
  rintro e w' ⟨rfl, rfl⟩
  go_wp2
  go_ret
  exact ⟨rfl, rfl⟩
end Go.Proofs.YtcdfomoglkhboaaGreatDoor
