/- The walk of the law on frames with one byte turned. No condition. -/
import Derived.Test.YtpnjkjpdfkkdkaaBentLaw
import Derived.StillTailTactics
namespace Go.Proofs.Ytpnjkjpdfkkdkaa
open Go.RowKit
set_option linter.unusedVariables false

set_option maxRecDepth 100000 in
set_option maxHeartbeats 4000000 in
theorem lawFnFrmBent (a : Option Addr) (n cap : Nat) (zs : List Int) (a' : Option Addr) (n' cap' : Nat) (zs' : List Int) (w : World) (hr : Rd w a n 1 (ints .u8 zs)) (hz : Bs zs) (hc : n ≤ cap ∧ cap ≤ maxLen)
    (hr' : Rd w a' n' 1 (ints .u8 zs')) (hz' : Bs zs') (hc' : n' ≤ cap' ∧ cap' ≤ maxLen) :
    Calls Try.prog 9 #[.slice a n cap, .slice a' n' cap'] w fun e w' => e = .returned (.bool true) ∧ Grew w w' := by
  have HR := Lib.hid hr; clear hr
  have HZ := Lib.hid hz; clear hz
  have HR' := Lib.hid hr'; clear hr'
  have HZ' := Lib.hid hz'; clear hz'
  have HC := Lib.hid hc
  have HC' := Lib.hid hc'
  obtain ⟨hc1, hc2⟩ := hc
  obtain ⟨hc3, hc4⟩ := hc'
  unfold maxLen at hc2 hc4
  by_cases hbig : 1048576 < n
  · have hb : decide ((1048576 : Int) < (n : Int)) = true := by simp; omega
    go_enter Try.func9, Try.ntmps9
    go_wp2
    go_ret
    exact ⟨rfl, Below.refl _ _⟩
  · have hb : decide ((1048576 : Int) < (n : Int)) = false := by simp; omega
    by_cases hbig' : 1048576 < n'
    · have hb' : (1048576 : Int) < (n' : Int) := by omega
      clear hbig
      go_enter Try.func9, Try.ntmps9
      go_wp2
      go_ret
      exact ⟨rfl, Below.refl _ _⟩
    · have hb' : ¬ (1048576 : Int) < (n' : Int) := by omega
      clear hbig hbig' hc1 hc2 hc3 hc4
      obtain ⟨w0, rfl⟩ : ∃ w0, w0 = w := ⟨_, rfl⟩
      go_enter Try.func9, Try.ntmps9
      go_wp2_with fail
      refine (DrawFrmPut _ _ _ _ _ HR.out HZ.out HC.out).mono ?_
      rintro e w1 ⟨v1, p, bs, rfl, hbs, hp, o1, b1⟩
      obtain ⟨a1, c1, rfl⟩ := owns_slice o1
      have HB := Lib.hid hbs; clear hbs
      have O1 := Lib.hid o1; clear o1
      have B1 := Lib.hid b1; clear b1
      go_wp2_with fail
      refine (DrawInputs _ _ _ _ _ (HR'.out.grew B1.out) HZ'.out HC'.out).mono ?_
      rintro e w2 ⟨x, v2, us, rfl, ⟨hx0, hx1⟩, hus, o2, b2⟩
      obtain ⟨a2, c2, rfl⟩ := owns_slice o2
      have HU := Lib.hid hus; clear hus
      have O1 := Lib.hid (owns_grew O1.out b2)
      have O2 := Lib.hid o2; clear o2
      have B2 := Lib.hid (B1.out.trans (b2.mono B1.out.size)); clear B1 b2
      have HPB := Lib.hid hp
      by_cases hin : 2000 < p
      · have d1 : (2000 : Int) < (p : Int) := by omega
        clear hin hp
        go_wp2_with fail
        refine (owOk _).mono ?_
        rintro e w' ⟨rfl, rfl⟩
        go_wp2
        go_ret
        exact ⟨rfl, B2.out⟩
      · have d1 : ¬ (2000 : Int) < (p : Int) := by omega
        have hpl := (owns_rd O1.out).len1
        have HL := Lib.hid (show bs.length ≤ 2000 by omega)
        have hfg := frm_good HB.out HL.out
        rw [hpl] at hfg
        have HFG := Lib.hid hfg
        have hfl := hfg.1
        clear hfg
        have HPL := Lib.hid hpl; clear hpl
        have HIN := Lib.hid hin; clear hin hp
        have hcall := implFrmPut a1 p c1 bs w2 (owns_rd O1.out) HB.out (by have := HPB.out; omega)
        rw [hfl] at hcall
        have HFL := Lib.hid hfl; clear hfl
        have CALL := Lib.hid hcall; clear hcall
        go_wp2_with fail
        refine CALL.out.mono ?_
        rintro e w3 ⟨v3, rfl, o3, b3⟩
        obtain ⟨g3, c3, rfl⟩ : ∃ g c, v3 = .slice (some ⟨g, 0, none⟩) (p + 4) c := by
          rcases o3.2 with ⟨rfl, e0⟩ | ⟨g', c', cur, rfl, _⟩
          · omega
          · exact ⟨g', c', rfl⟩
        clear CALL
        have O2 := Lib.hid (owns_grew O2.out b3)
        have O3 := Lib.hid o3; clear o3
        have B3 := Lib.hid (B2.out.trans (b3.mono B2.out.size)); clear B2 b3 O1
        have HC3 := Lib.hid (owns_cap O3.out)
        have hne4 : (((p + 4 : Nat) : Int) != (p : Int) + 4) = false := by simp
        go_wp2
        go_loopw [9] (fun i wr => ∃ k : Nat, k ≤ 12 ∧ i = .int .i64 k ∧ Grew w0 wr ∧ wr.ownsRow w1.heap.size 3 1 (.slice a2 12 c2) 12 (ints .i64 us) ∧ wr.ownsRow w2.heap.size 5 1 (.slice (some ⟨g3, 0, none⟩) (p + 4) c3) (p + 4) (ints .u8 (frmPut bs))) (fun i _ => 12 - (intOf i).toNat)
        case atStart => exact ⟨0, Nat.zero_le _, rfl, B3.out, O2.out, O3.out⟩
        case round =>
          obtain ⟨k, hk, rfl, hb3, ho2, ho3⟩ := hrel
          have Bk := Lib.hid hb3; clear hb3
          have U2 := Lib.hid ho2; clear ho2
          have F3 := Lib.hid ho3; clear ho3
          by_cases hlt : k < 12
          · obtain ⟨v5, w5, hrun5, o5, g5, -⟩ := owns_append (P := Try.prog) (wr.alloc (.cells #[] 5)) byteEl (World.ownsRow_lit wr #[] 0 (base := wr.heap.size) (Nat.le_refl _) (Nat.zero_le _) rfl) (some ⟨g3, 0, none⟩) (p + 4) c3 _
              ((owns_rd F3.out).grew ((Below.refl _ _).alloc (Nat.le_refl _) (.cells #[] 5))) (ints_one _ _) (by have := HPB.out; omega) (by have := HPB.out; omega) (by simp)
            simp only [Nat.zero_add, List.nil_append] at o5
            obtain ⟨g0, c5, rfl⟩ : ∃ g0 c5, v5 = .slice (some ⟨g0, 0, none⟩) (p + 4) c5 := by
              rcases o5.2 with ⟨rfl, e0⟩ | ⟨g', c', cur, rfl, _⟩
              · omega
              · exact ⟨g', c', rfl⟩
            have hlo := (o5.lt g0 rfl).1
            have b5 : Grew wr w5 := ((Below.refl _ _).alloc (Nat.le_refl _) _).grown g5 (by simp) (fun j hj => by simp [Value.ownBlock] at hj; omega)
            have R5 := Lib.hid hrun5; clear hrun5
            have O5 := Lib.hid o5; clear o5 g5
            have U5 := Lib.hid (owns_grew U2.out b5)
            have F5 := Lib.hid (owns_grew F3.out b5)
            have HLO := Lib.hid hlo; clear hlo
            have BW5 := Lib.hid b5
            have HG3 := Lib.hid (F3.out.lt g3 rfl).2
            have HUL : Hid (∀ b, (Value.slice a2 12 c2).ownBlock = some b → b < wr.heap.size) := Lib.hid (fun b hb => (U2.out.lt b hb).2)
            have B5 := Lib.hid (Bk.out.trans (b5.mono Bk.out.size)); clear b5 U2 F3
            obtain ⟨b2, off2, u, rfl, hu, hcu⟩ := (owns_rd U5.out).at1 hlt
            obtain ⟨hu0, hu1⟩ := HU.out _ _ hu
            clear hu
            have hkI : (k : Int) < 12 := by omega
            have hk0 : (0 : Int) ≤ (k : Int) := by omega
            have HLT := Lib.hid hlt; clear hlt
            have HK := Lib.hid hk; clear hk
            go_wp2_with (at_builtin; refine wpList_append_run rfl _ _ rfl rfl rfl rfl R5.out ?_)
            refine (owNorm u (by omega) (by omega) _).mono ?_
            rintro e w' ⟨rfl, rfl⟩
            obtain ⟨at_, hat, hatn⟩ : ∃ j : Nat, u % 65536 % ((p : Int) + 4) = (j : Int) ∧ j < p + 4 := by
              have e1 := Int.emod_nonneg (u % 65536) (show (p : Int) + 4 ≠ 0 by omega)
              have e2 := Int.emod_lt_of_pos (u % 65536) (show (0 : Int) < (p : Int) + 4 by omega)
              exact ⟨(u % 65536 % ((p : Int) + 4)).toNat, by omega, by omega⟩
            go_wp2_with fail
            rw [hat]
            clear hat
            obtain ⟨y0, hy0⟩ : ∃ y, (frmPut bs)[at_]? = some y := ⟨(frmPut bs)[at_]'(by have := HFL.out; omega), List.getElem?_eq_getElem _⟩
            obtain ⟨yb0, yb1⟩ := bs_frmPut HB.out _ _ hy0
            have hck : w5.cell? ⟨g0, at_, none⟩ = some (.int .u8 y0) := by rw [O5.out.cellAt at_ (by omega), ints_get hy0]
            have hfk : w5.frozen? ⟨g0, at_, none⟩ = false := O5.out.frozenAt at_
            obtain ⟨q, hq⟩ : ∃ q, (x + (k : Int)) % 65536 = q := ⟨_, rfl⟩
            have hq0 : 0 ≤ q := by omega
            have hq1 : q < 65536 := by omega
            have hwx : IntKind.i64.wrap (x + (k : Int)) = x + (k : Int) := IntWalk.i64_in _ (by omega)
            have HU2 : Hid (∀ W, Calls Try.prog 26 #[.int .i64 (x + (k : Int))] W fun e w' => e = .returned (.int .i64 q) ∧ w' = W) := fun W => by
              have h := still_of (owNorm (x + (k : Int)) (by omega) (by omega) W)
              rwa [hq] at h
            clear hq
            obtain ⟨y1, hy1, yc0, yc1, hyne⟩ := xor_u8 y0 (1 + q % 255) yb0 yb1 (by omega) (by omega)
            obtain ⟨o6, gg6⟩ := O5.out.stored at_ (.int .u8 y1)
            rw [ints_set'] at o6
            have hLO := HLO.out
            have b6 : Grew wr (w5.setCell ⟨g0, at_, none⟩ (.int .u8 y1)).drew := (BW5.out.setCell (p := ⟨g0, at_, none⟩) hLO _).drew
            have f6 := owns_grew (owns_chg F5.out (Chg.of_grownBy gg6) (fun b hb e => by
              have h1 := Option.some.inj e
              have h2 : g3 = b := Option.some.inj hb
              have h3 := HG3.out
              omega)) (grew_drewN _ 1)
            have u6 := owns_grew (owns_chg U5.out (Chg.of_grownBy gg6) (fun b hb e => by
              have h1 := Option.some.inj e
              have h2 := HUL.out b hb
              omega)) (grew_drewN _ 1)
            have X6 := Lib.hid (owns_grew o6 (grew_drewN _ 1)); clear o6 gg6
            have F6 := Lib.hid f6; clear f6 F5
            have U6 := Lib.hid u6; clear u6 U5
            have B6 := Lib.hid (Bk.out.trans (b6.mono Bk.out.size)); clear b6 B5 BW5
            have hkm : (at_ : Int) < (p : Int) + 4 := by omega
            have hka : (0 : Int) ≤ (at_ : Int) := by omega
            have hkm' : (at_ : Int) < ((p + 4 : Nat) : Int) := by omega
            have HY0 := Lib.hid hy0; clear hy0
            have HNE := Lib.hid hyne; clear hyne
            have HAT := Lib.hid hatn; clear hatn
            refine wp_region_still_tail 15 (by kernel_rfl) (by kernel_rfl) ?_
            simp only [List.take_succ_cons, List.take_zero, List.drop_succ_cons, List.drop_zero]
            repeat still_step
            still_call (HU2.out _)
            repeat still_step
            try refine wpStill_nil ?_
            change wpList _ _ _ _ _ w5.drew
            have hcapx := owns_cap X6.out
            have hcall := implFrmTake (some ⟨g0, 0, none⟩) (p + 4) c5 ((frmPut bs).set at_ y1) _ (owns_rd X6.out) (bs_set (bs_frmPut HB.out) at_ y1 yc0 yc1) (by have := HPB.out; omega) hcapx.1 hcapx.2
            clear hcapx
            obtain ⟨X, hX⟩ : ∃ X, (frmTake ((frmPut bs).set at_ y1)).1 = X := ⟨_, rfl⟩
            obtain ⟨M, hM⟩ : ∃ M, (frmTake ((frmPut bs).set at_ y1)).2.1 = M := ⟨_, rfl⟩
            obtain ⟨K, hK⟩ : ∃ K, (frmTake ((frmPut bs).set at_ y1)).2.2 = K := ⟨_, rfl⟩
            have hMne : K = true → (M == (p : Int) + 4) = false := by
              intro hk
              have h := frm_bent HB.out HL.out HY0.out yc0 yc1 HNE.out (b := X) (m := M) (by rw [← hX, ← hM, ← hk, ← hK])
              rw [HPL.out] at h
              simpa using h
            rw [hX, hM, hK] at hcall
            clear hX hM hK
            have CALL := Lib.hid hcall; clear hcall
            have hcut := frm_cut HB.out HL.out (i := at_) (by have := HPL.out; have := HAT.out; omega)
            have HCUT := Lib.hid hcut; clear hcut
            go_wp2_with fail
            refine CALL.out.mono ?_
            rintro e w7 ⟨v7, rfl, -, b7⟩
            clear CALL
            have F7 := Lib.hid (owns_grew F6.out b7)
            have U7 := Lib.hid (owns_grew U6.out b7)
            have B7 := Lib.hid (B6.out.trans (b7.mono B6.out.size)); clear b7 F6 U6 B6
            have hsub := (owns_rd F7.out).sub 0 at_ (by have := HAT.out; omega)
            simp only [Nat.add_zero, List.drop_zero] at hsub
            have hcap3 := HC3.out
            have hcall := implFrmTake (some ⟨g3, 0, none⟩) at_ c3 ((frmPut bs).take at_) _ hsub (bs_take (bs_frmPut HB.out) at_) (by have := HPB.out; have := HAT.out; omega) (by have := HAT.out; omega) hcap3.2
            rw [HCUT.out] at hcall
            simp only [] at hcall
            have CALL := Lib.hid hcall; clear hcall hsub
            have k1 : (at_ : Int) ≤ (c3 : Int) := by have := HAT.out; omega
            have k2 : at_ ≤ c3 := by omega
            clear hcap3
            cases K
            · clear hMne
              go_wp2_with fail
              refine CALL.out.mono ?_
              rintro e w8 ⟨v8, rfl, -, b8⟩
              clear CALL
              have F8 := Lib.hid (owns_grew F7.out b8)
              have U8 := Lib.hid (owns_grew U7.out b8)
              have B8 := Lib.hid (B7.out.trans (b8.mono B7.out.size)); clear b8
              go_wp2
              go_roundw
              case rel => exact ⟨k + 1, by have := HLT.out; omega, by go_num, B8.out, U8.out, F8.out⟩
              case measure => simp [intOf]; have := HLT.out; omega
            · have hM := hMne rfl
              clear hMne
              go_wp2_with fail
              refine CALL.out.mono ?_
              rintro e w8 ⟨v8, rfl, -, b8⟩
              clear CALL
              have F8 := Lib.hid (owns_grew F7.out b8)
              have U8 := Lib.hid (owns_grew U7.out b8)
              have B8 := Lib.hid (B7.out.trans (b8.mono B7.out.size)); clear b8
              go_wp2
              go_roundw
              case rel => exact ⟨k + 1, by have := HLT.out; omega, by go_num, B8.out, U8.out, F8.out⟩
              case measure => simp [intOf]; have := HLT.out; omega
          · obtain rfl : k = 12 := by omega
            obtain ⟨_, _, hsum⟩ := HFG.out
            have hs2 := (owns_rd F3.out).at1 (i := p + 2) (by omega)
            obtain ⟨b2', off2', x2, e2, hx2, hc2⟩ := hs2
            simp only [Option.some.injEq, Addr.mk.injEq, and_true] at e2
            obtain ⟨rfl, rfl⟩ := e2
            obtain ⟨b2', off2', x3, e2, hx3, hc3⟩ := (owns_rd F3.out).at1 (i := p + 3) (by omega)
            simp only [Option.some.injEq, Addr.mk.injEq, and_true] at e2
            obtain ⟨rfl, rfl⟩ := e2
            obtain ⟨xb0, xb1⟩ := bs_frmPut HB.out _ _ hx2
            obtain ⟨xb2, xb3⟩ := bs_frmPut HB.out _ _ hx3
            have hsum' : sumI ((frmPut bs).take (p + 2)) = x2 * 256 + x3 := by
              rw [hsum, List.getD_eq_getElem?_getD, List.getD_eq_getElem?_getD, hx2, hx3]; rfl
            have hcs : ∀ m, Calls Try.prog 14 #[.slice (some ⟨g3, 0, none⟩) (p + 2) c3] (wr.drewN m) fun e w' => e = .returned (.int .i64 (x2 * 256 + x3)) ∧ wr.drewN m = w' := fun m => by
              have hr9 := ((owns_rd F3.out).drewN m).sub 0 (p + 2) (by omega)
              simp only [Nat.add_zero, List.drop_zero] at hr9
              have h := implFrmSum (some ⟨g3, 0, none⟩) (p + 2) c3 _ _ hr9 (bs_take (bs_frmPut HB.out) _) (by have := HPB.out; omega)
              rwa [hsum'] at h
            have CS := Lib.hid hcs; clear hcs hsum hsum' hx2 hx3 hlt hk
            simp only [Nat.zero_add] at hc2 hc3
            have w1' : IntKind.i64.wrap ((p : Int) + 4 - 2) = (p : Int) + 2 := by rw [IntKind.wrap_i64]; have := HPB.out; omega
            have w2' : IntKind.i64.wrap ((p : Int) + 4 - 1) = (p : Int) + 3 := by rw [IntKind.wrap_i64]; have := HPB.out; omega
            have hcap3 := HC3.out.1
            have k1 : (p : Int) + 2 ≤ (c3 : Int) := by omega
            have k2 : (p : Int) + 2 < (p : Int) + 4 := by omega
            have k3 : (p : Int) + 3 < (p : Int) + 4 := by omega
            have k4 : (0 : Int) ≤ (p : Int) + 2 := by omega
            have k5 : (0 : Int) ≤ (p : Int) + 3 := by omega
            go_wp2_with fail
            go_quiet ((go_at_call 14; exact quiet_left (CS.out _)))
            go_wp2
            go_ret
            exact ⟨rfl, Bk.out.trans (below_drewN (Below.refl _ _) nq)⟩
end Go.Proofs.Ytpnjkjpdfkkdkaa
