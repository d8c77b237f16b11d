/- Contracts of the drawn inputs for frames that are taken. No condition. -/
import Derived.Test.YtpnjkjpdfkkdkaaDrawX
import Derived.Deep.RegionHeld3
import Derived.Deep.RegionWith
import Derived.Deep.RegionLaw
import Derived.StillTailTactics
namespace Go.Proofs.Ytpnjkjpdfkkdkaa
open Go.RowKit
set_option linter.unusedVariables false

/-- 'append' in a region that draws its order, its run known. -/
theorem step_append_run {P : Program} {ops : Array Oper} {o : Oper} {a : Act} {K : Act → World → Prop} {Q : Exit → Act → World → Prop} {E : Prop} {w w' : World} {v y v' : Value} {t : TypeId} (hgd : o.guard = none) (s x : Operand)
    (ho : o.op = .call { callee := .builtin .append, args := #[s, x], argTypes := #[t, t] }) (hty : o.type = t) (hs : a.eval s = v) (hx : a.eval x = y)
    (hrun : (Builtin.append_ #[t, t] t #[v, y]).run P w = .ok v' w') (h : K (a.put o.dst v') w') :
    if Region.wanted o (yielded ops a.tmps) = true then Oper.wp P o a w K Q else E := by
  have hw : Region.wanted o (yielded ops a.tmps) = true := by simp [Region.wanted, hgd]
  rw [if_pos hw]
  unfold Oper.wp execOp
  simp only [ho, hty, resolve, invoke, builtin, Sem.run_bind, Sem.run_pure, Result.andThen_ok, List.map_toArray, List.map_cons, List.map_nil, hs, hx, hrun]
  exact h

theorem Rd.chg_at {w w' : World} {F : Nat → Prop} {b off n size : Nat} {cs : List Value} (h : Rd w (some ⟨b, off, none⟩) n size cs) (hb : Chg F w w') (hF : ¬ F b) : Rd w' (some ⟨b, off, none⟩) n size cs :=
  h.chg hb (fun x e => by obtain rfl := Option.some.inj e; exact hF)

theorem RetBs.of {base g P L : Nat} {w : World} {v : Value} {n : Nat} {zs : List Int} {w' : World} (hz : Bs zs) (hn : n ≤ L) (ho : w'.ownsRow base 5 1 v n (ints .u8 zs)) (hr : RdLe w' g P) (hc : ChgG g w w') :
    RetBs base g P L w (.returned v) w' := ⟨v, n, zs, rfl, hz, hn, ho, hr, hc⟩

set_option maxHeartbeats 4000000 in
theorem l21Turn (g P : Nat) (a : Option Addr) (n c : Nat) (zs : List Int) (w : World) (h : RdLe w g P) (hp : P + 4 ≤ 1099511627776) (hr : Rd w a n 1 (ints .u8 zs)) (hz : Bs zs) (hc : n ≤ c ∧ c ≤ maxLen)
    (hn : n ≤ 4000) (hg : ∀ x, a = some x → x.block ≠ g) :
    Calls Try.prog 47 #[.pointer (some ⟨g, 0, none⟩), .slice a n c] w (RetBs w.heap.size g (P + 4) (n + 1) w) := by
  have hgl := h.lt
  have HP := Lib.hid h; clear h
  have HR := Lib.hid hr; clear hr
  have HZ := Lib.hid hz; clear hz
  obtain ⟨hc1, hc2⟩ := hc
  unfold maxLen at hc2
  by_cases hn0 : n = 0
  · subst hn0
    clear hg
    go_enter Try.func47, Try.ntmps47
    go_wp2_with fail
    refine (pickLe g P _ _ HP.out (by omega) (by omega)).mono ?_
    rintro e w1 ⟨v, rfl, ⟨h0, h1⟩, h2, h3⟩
    have h1 := h1 (by omega)
    have H2 := Lib.hid h2; clear h2
    have H3 := Lib.hid h3; clear h3
    go_wp2
    go_ret
    exact RetBs.of (bs_one v h0 (by omega)) (by omega) (owns_mono (World.ownsRow_lit w1 _ 1 (Nat.le_refl _) (by decide) rfl) H3.out.size) ((H2.out.grew ((Below.refl _ _).alloc (Nat.le_refl _) _)).mono (by omega)) (H3.out.grew ((Below.refl _ _).alloc (Nat.le_refl _) _))
  · have hn1 : ((n : Int) == 0) = false := by simp; omega
    have hnp : 1 ≤ n := by omega
    clear hn0
    obtain ⟨b, off, rfl⟩ : ∃ b off, a = some ⟨b, off, none⟩ := by
      obtain ⟨b, off, _, e, _⟩ := HR.out.at1 (i := 0) (by omega)
      exact ⟨b, off, e⟩
    have hgb : b ≠ g := hg _ rfl
    clear hg
    have HG := Lib.hid hgb; clear hgb
    go_enter Try.func47, Try.ntmps47
    go_wp2_with fail
    refine (pickLe g P _ _ HP.out (by omega) (by omega)).mono ?_
    rintro e w1 ⟨p1, rfl, ⟨h0, h1⟩, h2, h3⟩
    have h1 := h1 (by omega)
    have D1 := Lib.hid h2; clear h2
    have C1 := Lib.hid h3; clear h3
    go_wp2_with fail
    refine (pickLe g (P + 1) _ _ D1.out (by omega) (by omega)).mono ?_
    rintro e w2 ⟨p2, rfl, ⟨h2, h3⟩, h4, h5⟩
    have h3 := h3 (by omega)
    have D2 := Lib.hid h4; clear h4
    have C2 := Lib.hid (C1.out.trans h5); clear h5
    obtain ⟨k, hk, hkn⟩ : ∃ k : Nat, (p1 * 256 + p2) % (n : Int) = (k : Int) ∧ k < n := by
      have e1 := Int.emod_nonneg (p1 * 256 + p2) (show (n : Int) ≠ 0 by omega)
      have e2 := Int.emod_lt_of_pos (p1 * 256 + p2) (show (0 : Int) < (n : Int) by omega)
      exact ⟨((p1 * 256 + p2) % (n : Int)).toNat, by omega, by omega⟩
    go_wp2_with fail
    rw [hk]
    clear hk
    refine (pickLe g (P + 2) _ _ D2.out (by omega) (by omega)).mono ?_
    rintro e w3 ⟨v, rfl, ⟨h4, h5⟩, h6, h7⟩
    have h5 := h5 (by omega)
    have D3 := Lib.hid h6; clear h6
    have C3 := Lib.hid (C2.out.trans h7); clear h7
    have HR3 := Lib.hid (HR.out.chg_at C3.out (fun e => HG.out e))
    have hv : v = 0 ∨ v = 1 ∨ v = 2 ∨ v = 3 := by omega
    have k1 : (0 : Int) ≤ (k : Int) := by omega
    have k2 : (k : Int) ≤ (c : Int) := by omega
    have k3 : (k : Int) < (n : Int) := by omega
    have k4 : (k : Int) + 1 ≤ (n : Int) := by omega
    have k5 : (n : Int) ≤ (c : Int) := by omega
    have k6 : IntKind.i64.wrap ((k : Int) + 1) = (k : Int) + 1 := IntWalk.i64_in _ (by omega)
    have k7 : k ≤ c := by omega
    have k8 : k + 1 ≤ n := by omega
    clear D1 C1 D2 C2 HP h0 h1 h2 h3
    rcases hv with rfl | rfl | rfl | rfl
    · have hrd : ∀ W, Grew w3 W → Rd W (some ⟨b, off, none⟩) k 1 (ints .u8 (zs.take k)) := fun W hW => by
        have := (HR3.out.grew hW).sub 0 k (by omega)
        simpa using this
      have b4 : Grew w3 (w3.alloc (.cells #[] 5)).drew := ((Below.refl _ _).alloc (Nat.le_refl _) _).drew
      have l4 : (w3.alloc (.cells #[] 5)).drew.ownsRow w3.heap.size 5 1 (.slice (some ⟨w3.heap.size, 0, none⟩) 0 0) 0 [] := World.ownsRow_lit w3 #[] 0 (Nat.le_refl _) (Nat.zero_le _) rfl
      obtain ⟨v5, w5, hrun5, o5, g5, -⟩ := owns_append (P := Try.prog) _ byteEl l4 (some ⟨b, off, none⟩) k c _ (hrd _ b4) (ints_one _ _) (by omega) (by omega) b4.size
      simp only [Nat.zero_add, List.nil_append] at o5
      have b5 : Grew w3 w5 := b4.grown g5 b4.size (fun j hj => (l4.lt j hj).1)
      have R5 := Lib.hid hrun5; clear hrun5
      have K0 : (0 : Int) ≤ (k : Int) + 1 := by omega
      have K1 : (k : Int) ≤ (k : Int) + 1 := by omega
      have HDR : Hid (∀ W, Grew w3 W → k + 1 < c → Rd W (some ⟨b, off + (k + 1), none⟩) (n - (k + 1)) 1 (ints .u8 (zs.drop (k + 1)))) := fun W hW _ => by
        have h := (HR3.out.grew hW).sub (k + 1) (n - (k + 1)) (by omega)
        rwa [List.take_of_length_le (by rw [List.length_drop]; have := HR3.out.len1; omega)] at h
      have hzz := bs_app (bs_take HZ.out k) (bs_drop HZ.out (k + 1))
      have ZZ := Lib.hid hzz; clear hzz
      have C5 := Lib.hid (C3.out.trans (ChgG.of_grew b5))
      have D5 := Lib.hid (D3.out.grew b5)
      have B5 := Lib.hid b5; clear b5 b4 l4 hrd
      have O5 := Lib.hid o5; clear o5 g5
      by_cases hkc : c = k + 1
      · subst hkc
        obtain rfl : n = k + 1 := by omega
        have hnil : zs.drop (k + 1) = [] := List.drop_eq_nil_of_le (by have := HR3.out.len1; omega)
        rw [hnil] at ZZ
        obtain ⟨v6, w6, hrun6, o6, g6, -⟩ := owns_append (P := Try.prog) _ byteEl O5.out (some ⟨b, off, none⟩) 0 0 [] (Rd.nil _ _ _) (by simp) (by omega) (by omega) B5.out.size
        have R6 := Lib.hid hrun6; clear hrun6
        have C6 := Lib.hid (C5.out.to_g g6 (fun j hj => by have := (O5.out.lt j hj).1; have := C3.out.size; omega))
        have D6 := Lib.hid (D5.out.chg (Chg.of_grownBy g6) (fun j hj e => by have := (O5.out.lt j e).1; have := D3.out.lt; omega))
        have O6 := Lib.hid (owns_mono o6 C3.out.size); clear o6 g6
        clear hnil
        go_wp2_with fail
        go_region_held3 (fun _ => True) (first | trivial | trivial) (first | (refine step_append_run rfl _ _ rfl rfl rfl rfl R5.out ?_) | (refine step_append_run rfl _ _ rfl rfl rfl rfl R6.out ?_))
        go_wp2
        go_ret
        rw [List.append_nil] at O6 ZZ
        exact RetBs.of ZZ.out (by omega) O6.out (D6.out.mono (by omega)) C6.out
      · have hkc' : k + 1 < c := by omega
        obtain ⟨v6, w6, hrun6, o6, g6, -⟩ := owns_append (P := Try.prog) _ byteEl O5.out (some ⟨b, off + (k + 1), none⟩) (n - (k + 1)) (c - (k + 1)) _ (HDR.out _ B5.out hkc') (ints_one _ _) (by omega) (by omega) B5.out.size
        have R6 := Lib.hid hrun6; clear hrun6
        have C6 := Lib.hid (C5.out.to_g g6 (fun j hj => by have := (O5.out.lt j hj).1; have := C3.out.size; omega))
        have D6 := Lib.hid (D5.out.chg (Chg.of_grownBy g6) (fun j hj e => by have := (O5.out.lt j e).1; have := D3.out.lt; omega))
        rw [← ints_append] at o6
        have O6 := Lib.hid (owns_mono o6 C3.out.size); clear o6 g6
        go_wp2_with fail
        go_region_held3 (fun _ => True) (first | trivial | trivial) (first | (refine step_append_run rfl _ _ rfl rfl rfl rfl R5.out ?_) | (refine step_append_run rfl _ _ rfl rfl rfl rfl R6.out ?_))
        go_wp2
        go_ret
        exact RetBs.of ZZ.out (by omega) O6.out (D6.out.mono (by omega)) C6.out
    · have hrd : ∀ W, Grew w3 W → Rd W (some ⟨b, off, none⟩) k 1 (ints .u8 (zs.take k)) := fun W hW => by
        have := (HR3.out.grew hW).sub 0 k (by omega)
        simpa using this
      have b4 : Grew w3 (w3.alloc (.cells #[] 5)).drew := ((Below.refl _ _).alloc (Nat.le_refl _) _).drew
      have l4 : (w3.alloc (.cells #[] 5)).drew.ownsRow w3.heap.size 5 1 (.slice (some ⟨w3.heap.size, 0, none⟩) 0 0) 0 [] := World.ownsRow_lit w3 #[] 0 (Nat.le_refl _) (Nat.zero_le _) rfl
      obtain ⟨v5, w5, hrun5, o5, g5, -⟩ := owns_append (P := Try.prog) _ byteEl l4 (some ⟨b, off, none⟩) k c _ (hrd _ b4) (ints_one _ _) (by omega) (by omega) b4.size
      simp only [Nat.zero_add, List.nil_append] at o5
      have b5 : Grew w3 w5 := b4.grown g5 b4.size (fun j hj => (l4.lt j hj).1)
      have R5 := Lib.hid hrun5; clear hrun5
      have C5 := Lib.hid (C3.out.trans (ChgG.of_grew b5))
      have D5 := Lib.hid (D3.out.grew b5)
      have B5 := Lib.hid b5; clear b5 b4 l4 hrd
      have O5 := Lib.hid o5; clear o5 g5
      have P6 : Hid (∀ x6 w6, 0 ≤ x6 → x6 < 3 → ChgG g w5 w6 → RdLe w6 g (P + 4) → ∃ v7 w7 v8 w8, (Builtin.append_ #[22, 22] 22 #[v5, .slice (some ⟨w6.heap.size, 0, none⟩) 1 1]).run Try.prog (w6.alloc (.cells #[.int .u8 x6] 5)) = .ok v7 w7 ∧
          (Builtin.append_ #[22, 22] 22 #[v7, .slice (some ⟨b, off + k, none⟩) (n - k) (c - k)]).run Try.prog w7 = .ok v8 w8 ∧ RetBs w.heap.size g (P + 4) (n + 1) w (.returned v8) w8) := by
        intro x6 w6 x60 x61 hc6 hd6
        have ho6 := owns_chg O5.out hc6 (fun j hj e => by have := (O5.out.lt j hj).1; have := D3.out.lt; omega)
        have hsz : w3.heap.size ≤ w6.heap.size := Nat.le_trans B5.out.size hc6.size
        obtain ⟨v7, w7, hrun7, o7, g7, -⟩ := owns_append_lit (P := Try.prog) w6 byteEl ho6 1 [.int .u8 x6] rfl (by simp [Value.oneCell']) (by omega) (by omega) hsz
        have hc37 : ChgG g w3 w7 := ((ChgG.of_grew B5.out).trans hc6).to_g g7 (fun j hj => (ho6.lt j hj).1)
        have hrd7 : Rd w7 (some ⟨b, off + k, none⟩) (n - k) 1 (ints .u8 (zs.drop k)) := by
          have h := (HR3.out.chg_at hc37 HG.out).sub k (n - k) (by omega)
          rwa [List.take_of_length_le (by rw [List.length_drop]; have := HR3.out.len1; omega)] at h
        obtain ⟨v8, w8, hrun8, o8, g8, -⟩ := owns_append (P := Try.prog) w7 byteEl o7 (some ⟨b, off + k, none⟩) (n - k) (c - k) _ hrd7 (ints_one _ _) (by omega) (by omega) hc37.size
        have hc8 : ChgG g w3 w8 := hc37.to_g g8 (fun j hj => (o7.lt j hj).1)
        refine ⟨v7, w7, v8, w8, hrun7, hrun8, _, _, (zs.take k ++ [x6]) ++ zs.drop k, rfl, bs_app (bs_app (bs_take HZ.out k) (bs_one _ x60 (by omega))) (bs_drop HZ.out k), ?_, owns_mono (by rw [ints_append, ints_append]; exact o8) C3.out.size, ?_, C3.out.trans hc8⟩
        · omega
        · have hd7 := hd6.chg (Chg.of_grownBy g7) (fun j hj e => by have := (ho6.lt j e).1; have := D3.out.lt; omega)
          exact hd7.chg (Chg.of_grownBy g8) (fun j hj e => by have := (o7.lt j e).1; have := D3.out.lt; omega)
      have K2 : ¬ c = k := by omega
      have K3 : (k : Int) ≤ (n : Int) := by omega
      go_wp2_with fail
      go_region_held3 (fun _ => True) (first | trivial | trivial) (first
        | (refine step_append_run rfl _ _ rfl rfl rfl rfl R5.out ?_)
        | (go_at_call 45; refine (pickLe g (P + 3) _ _ D5.out (by omega) (by omega)).mono ?_; rintro e w6 ⟨x6, rfl, ⟨x60, x61⟩, hd6, hc6⟩; have x61 := x61 (by omega); have hwx : IntKind.u8.wrap x6 = x6 := (by rw [IntKind.wrap_u8']; omega); obtain ⟨v7, w7, v8, w8, hrun7, hrun8, hret⟩ := P6.out x6 w6 x60 x61 hc6 hd6; have R7 := Lib.hid hrun7; have R8 := Lib.hid hrun8; have RET := Lib.hid hret; clear hrun7 hrun8 hret hd6 hc6)
        | (refine step_append_run rfl _ _ rfl rfl rfl rfl R7.out ?_)
        | (refine step_append_run rfl _ _ rfl rfl rfl rfl R8.out ?_))
      all_goals
        clear hwx
        go_wp2
        go_ret
        exact RET.out
    · obtain ⟨v5, w5, hrun5, o5, g5, -⟩ := owns_append (P := Try.prog) (w3.alloc (.cells #[] 5)) byteEl (World.ownsRow_lit w3 #[] 0 (base := w3.heap.size) (Nat.le_refl _) (Nat.zero_le _) rfl) (some ⟨b, off, none⟩) n c _
        (HR3.out.grew ((Below.refl _ _).alloc (Nat.le_refl _) (.cells #[] 5))) (ints_one _ _) (by omega) (by omega) (by simp)
      simp only [Nat.zero_add, List.nil_append] at o5
      obtain ⟨g0, c5, rfl⟩ : ∃ g0 c5, v5 = .slice (some ⟨g0, 0, none⟩) n c5 := by
        rcases o5.2 with ⟨rfl, e0⟩ | ⟨g', c', cur, rfl, _⟩
        · omega
        · exact ⟨g', c', rfl⟩
      have hlo := (o5.lt g0 rfl).1
      have b5 : Grew w3 w5 := ((Below.refl _ _).alloc (Nat.le_refl _) _).grown g5 (by simp) (fun j hj => by simp [Value.ownBlock] at hj; omega)
      obtain ⟨y0, hy0⟩ : ∃ y, zs[k]? = some y := ⟨zs[k]'(by have := HR3.out.len1; omega), List.getElem?_eq_getElem _⟩
      obtain ⟨yb0, yb1⟩ := HZ.out _ _ hy0
      have hck : w5.cell? ⟨g0, k, none⟩ = some (.int .u8 y0) := by rw [o5.cellAt k (by omega), ints_get hy0]
      have hfk : w5.frozen? ⟨g0, k, none⟩ = false := o5.frozenAt k
      have R5 := Lib.hid hrun5; clear hrun5
      have B5 := Lib.hid b5; clear b5
      have O5 := Lib.hid o5; clear o5 g5
      have HY0 := Lib.hid hy0; clear hy0
      have D5 := Lib.hid (D3.out.grew B5.out)
      have LO : Hid (g < g0) := Lib.hid (by have := D3.out.lt; omega)
      clear hlo
      have P6 : Hid (∀ x6 w6, 0 ≤ x6 → x6 < 255 → ChgG g w5 w6 → w6.cell? ⟨g0, k, none⟩ = some (.int .u8 y0) ∧ w6.frozen? ⟨g0, k, none⟩ = false ∧ ∃ y1, bits .xor .u8 y0 (1 + x6) = y1 ∧
          (RdLe w6 g (P + 4) → RetBs w.heap.size g (P + 4) (n + 1) w (.returned (.slice (some ⟨g0, 0, none⟩) n c5)) (w6.setCell ⟨g0, k, none⟩ (.int .u8 y1)))) := by
        intro x6 w6 x60 x61 hc6
        have ho6 := owns_chg O5.out hc6 (fun j hj e => by have := LO.out; simp [Value.ownBlock] at hj; omega)
        refine ⟨by rw [ho6.cellAt k (by omega), ints_get HY0.out], ho6.frozenAt k, ?_⟩
        obtain ⟨y1, hy1, yc0, yc1, _⟩ := xor_u8 y0 (1 + x6) yb0 yb1 (by omega) (by omega)
        refine ⟨y1, hy1, fun hd6 => ?_⟩
        obtain ⟨o7, g7⟩ := ho6.stored k (.int .u8 y1)
        rw [ints_set'] at o7
        have hc36 : ChgG g w3 w6 := (ChgG.of_grew B5.out).trans hc6
        exact RetBs.of (bs_set HZ.out k y1 yc0 yc1) (by omega) (owns_mono o7 C3.out.size) (hd6.chg (Chg.of_grownBy g7) (fun j hj e => by have := LO.out; have := Option.some.inj e; omega))
          ((C3.out.trans hc36).to_g g7 (fun j hj => by have := (O5.out.lt g0 rfl).1; have := C3.out.size; have := Option.some.inj hj; omega))
      go_wp2_with (at_builtin; refine wpList_append_run rfl _ _ rfl rfl rfl rfl R5.out ?_)
      go_region_with (first
        | (go_at_call 45; refine (pickLe g (P + 3) _ _ (D5.out.grew (grew_drewN _ 1)) (by omega) (by omega)).mono ?_; rintro e w6 ⟨x6, rfl, ⟨x60, x61⟩, hd6, hc6⟩; have x61 := x61 (by omega); obtain ⟨hck6, hfk6, y1, hxor, hret⟩ := P6.out x6 w6 x60 x61 ((ChgG.of_grew (grew_drewN w5 1)).trans hc6); have RET := Lib.hid (hret hd6); have hw1 : IntKind.i64.wrap (1 + x6) = 1 + x6 := IntWalk.i64_in _ (by omega); have hw2 : IntKind.u8.wrap (1 + x6) = 1 + x6 := (by rw [IntKind.wrap_u8']; omega); clear hret hd6 hc6))
      all_goals
        clear hw1 hw2 hxor
        go_wp2
        go_ret
        exact RET.out
    · obtain ⟨v5, w5, hrun5, o5, g5, -⟩ := owns_append (P := Try.prog) (w3.alloc (.cells #[] 5)) byteEl (World.ownsRow_lit w3 #[] 0 (base := w3.heap.size) (Nat.le_refl _) (Nat.zero_le _) rfl) (some ⟨b, off, none⟩) n c _
        (HR3.out.grew ((Below.refl _ _).alloc (Nat.le_refl _) (.cells #[] 5))) (ints_one _ _) (by omega) (by omega) (by simp)
      simp only [Nat.zero_add, List.nil_append] at o5
      obtain ⟨g0, c5, rfl⟩ : ∃ g0 c5, v5 = .slice (some ⟨g0, 0, none⟩) n c5 := by
        rcases o5.2 with ⟨rfl, e0⟩ | ⟨g', c', cur, rfl, _⟩
        · omega
        · exact ⟨g', c', rfl⟩
      have hlo := (o5.lt g0 rfl).1
      have b5 : Grew w3 w5 := ((Below.refl _ _).alloc (Nat.le_refl _) _).grown g5 (by simp) (fun j hj => by simp [Value.ownBlock] at hj; omega)
      obtain ⟨y0, hy0⟩ : ∃ y, zs[k]? = some y := ⟨zs[k]'(by have := HR3.out.len1; omega), List.getElem?_eq_getElem _⟩
      obtain ⟨yb0, yb1⟩ := HZ.out _ _ hy0
      have hck : w5.cell? ⟨g0, k, none⟩ = some (.int .u8 y0) := by rw [o5.cellAt k (by omega), ints_get hy0]
      have hfk : w5.frozen? ⟨g0, k, none⟩ = false := o5.frozenAt k
      have R5 := Lib.hid hrun5; clear hrun5
      have B5 := Lib.hid b5; clear b5
      have O5 := Lib.hid o5; clear o5 g5
      have HY0 := Lib.hid hy0; clear hy0
      have D5 := Lib.hid (D3.out.grew B5.out)
      have LO : Hid (g < g0) := Lib.hid (by have := D3.out.lt; omega)
      clear hlo
      have P6 : Hid (∀ x6 w6, 0 ≤ x6 → x6 < 255 → ChgG g w5 w6 → w6.cell? ⟨g0, k, none⟩ = some (.int .u8 y0) ∧ w6.frozen? ⟨g0, k, none⟩ = false ∧ ∃ y1, bits .xor .u8 y0 (1 + x6) = y1 ∧
          (RdLe w6 g (P + 4) → RetBs w.heap.size g (P + 4) (n + 1) w (.returned (.slice (some ⟨g0, 0, none⟩) n c5)) (w6.setCell ⟨g0, k, none⟩ (.int .u8 y1)))) := by
        intro x6 w6 x60 x61 hc6
        have ho6 := owns_chg O5.out hc6 (fun j hj e => by have := LO.out; simp [Value.ownBlock] at hj; omega)
        refine ⟨by rw [ho6.cellAt k (by omega), ints_get HY0.out], ho6.frozenAt k, ?_⟩
        obtain ⟨y1, hy1, yc0, yc1, _⟩ := xor_u8 y0 (1 + x6) yb0 yb1 (by omega) (by omega)
        refine ⟨y1, hy1, fun hd6 => ?_⟩
        obtain ⟨o7, g7⟩ := ho6.stored k (.int .u8 y1)
        rw [ints_set'] at o7
        have hc36 : ChgG g w3 w6 := (ChgG.of_grew B5.out).trans hc6
        exact RetBs.of (bs_set HZ.out k y1 yc0 yc1) (by omega) (owns_mono o7 C3.out.size) (hd6.chg (Chg.of_grownBy g7) (fun j hj e => by have := LO.out; have := Option.some.inj e; omega))
          ((C3.out.trans hc36).to_g g7 (fun j hj => by have := (O5.out.lt g0 rfl).1; have := C3.out.size; have := Option.some.inj hj; omega))
      go_wp2_with (at_builtin; refine wpList_append_run rfl _ _ rfl rfl rfl rfl R5.out ?_)
      go_region_with (first
        | (go_at_call 45; refine (pickLe g (P + 3) _ _ (D5.out.grew (grew_drewN _ 1)) (by omega) (by omega)).mono ?_; rintro e w6 ⟨x6, rfl, ⟨x60, x61⟩, hd6, hc6⟩; have x61 := x61 (by omega); obtain ⟨hck6, hfk6, y1, hxor, hret⟩ := P6.out x6 w6 x60 x61 ((ChgG.of_grew (grew_drewN w5 1)).trans hc6); have RET := Lib.hid (hret hd6); have hw1 : IntKind.i64.wrap (1 + x6) = 1 + x6 := IntWalk.i64_in _ (by omega); have hw2 : IntKind.u8.wrap (1 + x6) = 1 + x6 := (by rw [IntKind.wrap_u8']; omega); clear hret hd6 hc6))
      all_goals
        clear hw1 hw2 hxor
        go_wp2
        go_ret
        exact RET.out
end Go.Proofs.Ytpnjkjpdfkkdkaa
