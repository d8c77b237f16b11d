/- Lemmas and walks of this proof, some texts one behind the other. No condition. -/
import Derived.Test.YtdddhnepanjmfaaGreatWb
import Derived.Test.YtdddhnepanjmfaaGreatReadS
import Derived.Test.YtdddhnepanjmfaaGreatCd
set_option linter.unusedSimpArgs false
set_option linter.unusedVariables false
/- Verdicts: compared with the same ones, marked, and that the marks are held. No condition. -/
namespace Go.Proofs.YtdddhnepanjmfaaGreat
open Go.RowKit
set_option linter.unusedVariables false
set_option linter.unusedSimpArgs false
attribute [local go_sem] ext_cell ext_frozen ext_lt ext_le ext_le1 lt_s2 lt_s3 lt_s4 lt_s5 lt_s6 ext_lt1 ext_lt2 ext_lt3

theorem eqCrtSite (x : Site) (w : World) : Calls Tryz.prog 61 #[.agg #[.int .i64 x.proc, .int .i64 x.pc], .agg #[.int .i64 x.proc, .int .i64 x.pc]] w fun e w' => e = .returned (.bool true) ∧ Grew w w' := by
  obtain ⟨lo, hi⟩ := x
  go_enter Tryz.func61, Tryz.ntmps61
  go_wp2
  go_ret
  refine ⟨rfl, ?_⟩
  exact gr
theorem eqCrtSiteS (a : Option Addr) (n cap : Nat) (a' : Option Addr) (cap' : Nat) (S : List Site) (w : World) (hr : Rd w a n 2 (S.flatMap sitC)) (hr' : Rd w a' n 2 (S.flatMap sitC)) (hS : S.length = n) (hn : n ≤ 9223372036854775807) :
    Calls Tryz.prog 28 #[.slice a n cap, .slice a' n cap'] w fun e w' => e = .returned (.bool true) ∧ Grew w w' := by
  have HR := Lib.hid hr; clear hr
  have HR' := Lib.hid hr'; clear hr'
  have HS := Lib.hid hS; clear hS
  go_enter Tryz.func28, Tryz.ntmps28
  go_wp2
  go_loopw [5] (fun i wr => ∃ k : Nat, k ≤ n ∧ i = .int .i64 k ∧ Grew w wr) (fun i _ => n - (Go.RowKit.intOf i).toNat)
  case atStart => exact ⟨0, Nat.zero_le _, rfl, Below.refl _ _⟩
  case round =>
    obtain ⟨k, hk, rfl, hg⟩ := hrel
    by_cases hlt : k < n
    · obtain ⟨x, hx⟩ : ∃ x, S[k]? = some x := ⟨_, List.getElem?_eq_getElem (by have := HS.out; omega)⟩
      obtain ⟨b, off, rfl, c0, c1⟩ := site_get (HR.out.grew hg) hx
      obtain ⟨b', off', rfl, c0', c1'⟩ := site_get (HR'.out.grew hg) hx
      have hb := World.block_lt_of_cell? wr _ c0
      have hb' := World.block_lt_of_cell? wr _ c0'
      simp only at hb hb'
      have HC := Lib.hid (fun W => eqCrtSite x W)
      have HG := Lib.hid hg
      clear hx hg
      go_wp2_with fail
      first | refine wp_region_ext2 (by kernel_rfl) (by kernel_rfl) ?_ | refine wp_region_ext (by kernel_rfl) (by kernel_rfl) ?_
      repeat (go_big_quiet_step ((first | (with_reducible exact ext_grow (HC.out _)))))
      refine wpQuiet_nil ?_
      intro _ hw'
      obtain ⟨y, hw''⟩ := hw'
      subst hw''
      go_wp2
      go_roundw
      case rel => exact ⟨k + 1, by omega, by go_num, grew_ext HG.out y⟩
      case measure => simp [Go.RowKit.intOf]; omega
    · have HG := Lib.hid hg
      clear hg
      go_wp2
      go_ret
      exact ⟨rfl, HG.out⟩

theorem eqVrdVerdict (x y : Int) (a : Option Addr) (n cap : Nat) (a' : Option Addr) (cap' : Nat) (S : List Site) (w : World) (hr : Rd w a n 2 (S.flatMap sitC)) (hr' : Rd w a' n 2 (S.flatMap sitC)) (hS : S.length = n) (hn : n ≤ 9223372036854775807) :
    Calls Tryz.prog 10 #[.agg #[.int .i64 x, .int .i64 y, .slice a n cap], .agg #[.int .i64 x, .int .i64 y, .slice a' n cap']] w fun e w' => e = .returned (.bool true) ∧ Grew w w' := by
  have HC := Lib.hid fun W (h : Grew w W) => eqCrtSiteS a n cap a' cap' S W (hr.grew h) (hr'.grew h) hS hn
  clear hr hr'
  go_enter Tryz.func10, Tryz.ntmps10
  go_wp2_with (first | ((with_reducible refine (HC.out _ (gr)).mono ?_); rintro e w' ⟨rfl, g'⟩; (first | obtain ⟨y, rfl⟩ := ext_cold g' | obtain ⟨y, rfl⟩ := ext_col g' | obtain ⟨y, rfl⟩ := ext_of g'); clear g'))
  go_ret
  refine ⟨rfl, ?_⟩
  exact gr

set_option maxHeartbeats 4000000 in
theorem markCrtSiteS (a : Option Addr) (n cap : Nat) (k0 : Nat) (cs : List Value) (B : Nat) (w : World) (ho : w.ownsRow B 62 2 (.slice a n cap) n cs) (hk0 : k0 ≤ 1125899906842624) (hm : n ≤ 1099511627776) :
    Calls Tryz.prog 34 #[.slice a n cap, .int .i64 k0] w fun e w' => e = .returned (.int .i64 ((k0 + n * 2 : Nat) : Int)) ∧
      w'.ownsRow B 62 2 (.slice a n cap) n (markI k0 (n * 2)) ∧ Chg (fun b => (Value.slice a n cap).ownBlock = some b) w w' := by
  have HO := Lib.hid ho; clear ho
  go_enter Tryz.func34, Tryz.ntmps34
  go_wp2
  go_loopw [1, 5] (fun kk i wr => ∃ k K : Nat, k ≤ n ∧ K = k0 + k * 2 ∧ i = .int .i64 k ∧ kk = .int .i64 K ∧ Chg (fun b => (Value.slice a n cap).ownBlock = some b) w wr ∧
    ∃ ys, wr.ownsRow B 62 2 (.slice a n cap) n ys ∧ ∀ j, j < k * 2 → ys[j]? = (markI k0 (n * 2))[j]?) (fun _ i _ => n - (Go.RowKit.intOf i).toNat)
  case atStart => exact ⟨0, k0, Nat.zero_le _, by omega, rfl, rfl, Chg.refl _ _, _, HO.out, fun j hj => absurd hj (by omega)⟩
  case round =>
    obtain ⟨k, K, hk, hK, rfl, rfl, hg, ys, how, hys⟩ := hrel
    have hK1 : K ≤ 1135000000000000 := by omega
    have HK := Lib.hid hK; clear hK
    by_cases hlt : k < n
    · obtain ⟨g, rfl⟩ : ∃ g, a = some ⟨g, 0, none⟩ := by
        rcases how.2 with ⟨h1, h2⟩ | ⟨g, cap', cur, h1, _⟩
        · omega
        · simp only [Value.slice.injEq] at h1
          exact ⟨g, h1.1⟩
      have HH := Lib.hid hys; clear hys
      have HG := Lib.hid hg; clear hg
      have HW := Lib.hid how; clear how
      obtain ⟨y0, e0⟩ := own_some HW.out (j := k * 2) (by omega)
      obtain ⟨y1, e1⟩ := own_some HW.out (j := k * 2 + 1) (by omega)
      have f0 := fun j => HW.out.frozenAt j
      go_wp2
      go_roundw
      case rel =>
        have hK := HK.out
        obtain ⟨ho', hg'⟩ := own_sets ([.int .i64 (K : Int), .int .i64 ((K : Int) + 1)]) _ _ (k * 2) HW.out
        refine ⟨k + 1, K + 2, by omega, by omega, by go_num, by go_num, (HG.out.trans (Chg.of_grownBy hg') (fun _ _ h => h) (fun i _ h => h)), _, ho', mark_step HW.out.1 (by omega) _ rfl (fun r hr => ?_) HH.out⟩
        match r, hr with
          | 0, _ => rw [← hK]; rfl
          | 1, _ => rw [← hK]; rfl
      case measure => simp [Go.RowKit.intOf]; omega
    · obtain rfl : k = n := by omega
      have hfin := mark_all how.1 hys
      subst hfin
      clear hys
      have HW := Lib.hid how; clear how
      have HG := Lib.hid hg; clear hg
      go_wp2
      go_ret
      exact ⟨by rw [HK.out]; rfl, HW.out, HG.out⟩

set_option maxHeartbeats 2000000 in
theorem heldCrtSiteS (a : Option Addr) (n cap : Nat) (k0 : Nat) (w : World) (hr : Rd w a n 2 (markI k0 (n * 2))) (hk0 : k0 ≤ 1125899906842624) (hm : n ≤ 1099511627776) :
    Calls Tryz.prog 35 #[.slice a n cap, .int .i64 k0] w fun e w' => e = .returned (.int .i64 ((k0 + n * 2 : Nat) : Int)) ∧ w = w' := by
  have HR := Lib.hid hr; clear hr
  go_enter Tryz.func35, Tryz.ntmps35
  go_wp2
  go_loop [1, 5] (fun kk i => ∃ k K : Nat, k ≤ n ∧ K = k0 + k * 2 ∧ i = .int .i64 k ∧ kk = .int .i64 K) (fun _ i => n - (Go.RowKit.intOf i).toNat)
  case atStart => exact ⟨0, k0, Nat.zero_le _, by omega, rfl, rfl⟩
  case round =>
    obtain ⟨k, K, hk, hK, rfl, rfl⟩ := hrel
    have hK1 : K ≤ 1135000000000000 := by omega
    have HK := Lib.hid hK; clear hK
    by_cases hlt : k < n
    · obtain ⟨b, off, rfl, hcell⟩ : ∃ b off, a = some ⟨b, off, none⟩ ∧ ∀ j, j < n * 2 → w.cell? ⟨b, off + j, none⟩ = some (.int .i64 ((k0 + j : Nat) : Int)) := by
        rcases HR.out.2 with h0 | ⟨b, off, e, hc⟩
        · have := markI_len k0 (n * 2)
          rw [h0, List.length_nil] at this
          omega
        · exact ⟨b, off, e, fun j hj => hc j _ (markI_get _ _ _ hj)⟩
      have c0 := hcell (k * 2) (by omega)
      have c1 := hcell (k * 2 + 1) (by omega)
      rw [show k0 + (k * 2) = K from by have := HK.out; omega] at c0
      rw [show k0 + (k * 2 + 1) = K + 1 from by have := HK.out; omega] at c1
      clear hcell
      simp only [← Nat.add_assoc] at c0 c1
      go_wp2
      go_round
      case rel => exact ⟨k + 1, K + 2, by omega, by have := HK.out; omega, by go_num, by go_num⟩
      case measure => simp [Go.RowKit.intOf]; omega
    · obtain rfl : k = n := by omega
      go_wp2
      go_ret
      exact ⟨by rw [HK.out]; rfl, rfl⟩

theorem markVrdVerdict (x y : Int) (a : Option Addr) (n c : Nat) (k0 : Nat) (cs : List Value) (B : Nat) (w : World) (ho : w.ownsRow B 62 2 (.slice a n c) n cs) (hk0 : k0 ≤ 1125899906842624) (hm : n ≤ 1099511627776) :
    Calls Tryz.prog 15 #[.agg #[.int .i64 x, .int .i64 y, .slice a n c], .int .i64 k0] w fun e w' => e = .returned (.int .i64 ((k0 + n * 2 : Nat) : Int)) ∧
      w'.ownsRow B 62 2 (.slice a n c) n (markI k0 (n * 2)) ∧ Chg (fun b => (Value.slice a n c).ownBlock = some b) w w' := by
  have hlt := ho.lt
  have C := markCrtSiteS a n c k0 cs B (w.alloc (.cells #[.int .i64 x, .int .i64 y, .slice a n c] 30)) (ho.alloc _) hk0 hm
  have HC := Lib.hid C; clear C ho
  have HLT := Lib.hid hlt; clear hlt
  go_enter Tryz.func15, Tryz.ntmps15
  go_wp2_with fail
  refine HC.out.mono ?_
  rintro e w1 ⟨rfl, o1, g1⟩
  have O1 := Lib.hid o1; clear o1
  have G1 := Lib.hid g1; clear g1
  go_wp2
  go_ret
  exact ⟨rfl, O1.out, (Chg.of_below (F := fun b => (Value.slice a n c).ownBlock = some b) (grew_al (Below.refl _ _) _)).trans G1.out (fun _ _ h => h) (fun _ _ h => h)⟩

theorem heldVrdVerdict (x y : Int) (a : Option Addr) (n c : Nat) (k0 : Nat) (w : World) (hr : Rd w a n 2 (markI k0 (n * 2))) (hk0 : k0 ≤ 1125899906842624) (hm : n ≤ 1099511627776) :
    Calls Tryz.prog 16 #[.agg #[.int .i64 x, .int .i64 y, .slice a n c], .int .i64 k0] w fun e w' => e = .returned (.int .i64 ((k0 + n * 2 : Nat) : Int)) ∧ Grew w w' := by
  obtain ⟨K, hK⟩ : ∃ K, k0 + n * 2 = K := ⟨_, rfl⟩
  have C := fun W (h : Grew w W) => heldCrtSiteS a n c k0 W (hr.grew h) hk0 hm
  rw [hK] at C ⊢
  have hK0 : ¬ ((K : Nat) : Int) < 0 := by omega
  have HC := Lib.hid C; clear C hr hK
  go_enter Tryz.func16, Tryz.ntmps16
  go_wp2_with ((with_reducible refine (HC.out _ (gr)).mono ?_); rintro e w' ⟨rfl, rfl⟩)
  go_ret
  refine ⟨rfl, ?_⟩
  exact gr

theorem retVrd_of {P : Program} {f : FuncId} {args : Array Value} {w : World} {ps : List Prc} {xs : List Crt} {k : Int} {S : List Site} (h : Calls P f args w (RetVrd (vrdP ps xs).1 (vrdP ps xs).2 w)) (hS : vrdP ps xs = (k, S)) :
    Calls P f args w fun e w' => RetVrd k S w e w' := by
  rw [hS] at h
  exact h
theorem vrdP_short {ps : List Prc} {xs : List Crt} {k : Int} {S : List Site} (h : vrdP ps xs = (k, S)) : S.length ≤ 1000 := by
  unfold vrdP at h
  split at h
  · rename_i hc
    simp only [Bool.and_eq_true, decide_eq_true_eq] at hc
    obtain ⟨⟨hB, hl⟩, -⟩ := hc
    split at h
    · obtain ⟨-, rfl⟩ := Prod.mk.inj h
      simp
    · obtain ⟨-, rfl⟩ := Prod.mk.inj h
      rw [putsL_len]
      have h1 := allF_len hB xs xs.length
      have h2 := (ptOf_bd hB).1
      omega
  · obtain ⟨-, rfl⟩ := Prod.mk.inj h
    simp
theorem certs_slice {w : World} {B T C n : Nat} {v : Value} {ys : List Value} {ms : List CrtM} {xs : List Crt} (h : w.ownsRow B T C v ms.length ys) (hm : ms.map pCrt = xs) (hl : xs.length = n) : ∃ a c, v = .slice a n c := by
  obtain ⟨a, c, rfl⟩ := owns_slice h
  have := congrArg List.length hm
  rw [List.length_map] at this
  exact ⟨a, c, by rw [this, hl]⟩
theorem certs_rdX {l u n : Nat} {w : World} {a : Option Addr} {c : Nat} {ms : List CrtM} {xs : List Crt} (h : OwnR 58 2 fCrt QCrt l u w (.slice a n c) ms) (hm : ms.map pCrt = xs) : RdL ECrt 2 w a n xs := hm ▸ certs_rd h
end Go.Proofs.YtdddhnepanjmfaaGreat

/- Certificates compared with the same ones. No condition. -/
namespace Go.Proofs.YtdddhnepanjmfaaGreat
open Go.RowKit
set_option linter.unusedVariables false
set_option linter.unusedSimpArgs false
attribute [local go_sem] ext_cell ext_frozen ext_lt ext_le ext_le1 lt_s2 lt_s3 lt_s4 lt_s5 lt_s6 ext_lt1 ext_lt2 ext_lt3


theorem eqAbsStateS (a : Option Addr) (n cap : Nat) (a' : Option Addr) (cap' : Nat) (xs : List St) (w : World) (hr : RdL ESt 4 w a n xs) (hr' : RdL ESt 4 w a' n xs) (hn : n ≤ 9223372036854775807) :
    Calls Tryz.prog 108 #[.slice a n cap, .slice a' n cap'] w fun e w' => e = .returned (.bool true) ∧ Grew w w' := by
  have HR := Lib.hid hr; clear hr
  have HR' := Lib.hid hr'; clear hr'
  go_enter Tryz.func108, Tryz.ntmps108
  go_wp2
  go_loopw [5] (fun i wr => ∃ k : Nat, k ≤ n ∧ i = .int .i64 k ∧ Grew w wr) (fun i _ => n - (Go.RowKit.intOf i).toNat)
  case atStart => exact ⟨0, Nat.zero_le _, rfl, Below.refl _ _⟩
  case round =>
    obtain ⟨k, hk, rfl, hg⟩ := hrel
    by_cases hlt : k < n
    · obtain ⟨b, off, on, va, vars, vc, lo, hi, rfl, hx, c0, c1, c2, c3, hb, hi1, hi2, hi3⟩ := rdSt_at (HR.out.grew staysSt hg) hlt
      obtain ⟨b', off', on', va', vars', vc', lo', hi', rfl, hx', c0', c1', c2', c3', hb', hi1', hi2', hi3'⟩ := rdSt_at (HR'.out.grew staysSt hg) hlt
      rw [hx] at hx'
      obtain ⟨rfl, rfl, rfl, rfl⟩ := St.mk.inj (Option.some.inj hx')
      have HC := Lib.hid (fun W (g : Grew wr W) => (show Calls Tryz.prog 144 #[.agg #[.bool on, .slice va vars.length vc, .int .i64 lo, .int .i64 hi], .agg #[.bool on, .slice va' vars.length vc', .int .i64 lo, .int .i64 hi]] W fun e w' => e = .returned (.bool true) ∧ Grew W w' by
        have := eqAbsState on on va va' vars.length vars.length vc vc' vars vars lo hi lo hi W (hi1.grew staysItv g) (hi1'.grew staysItv g) (by unfold maxLen at hi3; omega) (by unfold maxLen at hi3; omega)
        simpa using this))
      have HG := Lib.hid hg
      clear hx hx' hg hi1 hi2 hi3 hi1' hi2' hi3'
      obtain ⟨vn, hvn⟩ : ∃ n, vars.length = n := ⟨_, rfl⟩
      rw [hvn] at HC c1 c1'
      clear hvn
      go_wp2_with fail
      first | refine wp_region_ext2 (by kernel_rfl) (by kernel_rfl) ?_ | refine wp_region_ext (by kernel_rfl) (by kernel_rfl) ?_
      repeat (go_big_quiet_step ((first | (with_reducible exact ext_grow (HC.out _ (gr))))))
      refine wpQuiet_nil ?_
      intro _ hw'
      obtain ⟨y, hw''⟩ := hw'
      subst hw''
      go_wp2
      go_roundw
      case rel => exact ⟨k + 1, by omega, by go_num, grew_ext HG.out y⟩
      case measure => simp [Go.RowKit.intOf]; omega
    · have HG := Lib.hid hg
      clear hg
      go_wp2
      go_ret
      exact ⟨rfl, HG.out⟩

theorem eqAbsStateSS (a : Option Addr) (n cap : Nat) (a' : Option Addr) (cap' : Nat) (xs : List (List St)) (w : World) (hr : RdL ERow 1 w a n xs) (hr' : RdL ERow 1 w a' n xs) (hn : n ≤ 9223372036854775807) :
    Calls Tryz.prog 63 #[.slice a n cap, .slice a' n cap'] w fun e w' => e = .returned (.bool true) ∧ Grew w w' := by
  have HR := Lib.hid hr; clear hr
  have HR' := Lib.hid hr'; clear hr'
  go_enter Tryz.func63, Tryz.ntmps63
  go_wp2
  go_loopw [5] (fun i wr => ∃ k : Nat, k ≤ n ∧ i = .int .i64 k ∧ Grew w wr) (fun i _ => n - (Go.RowKit.intOf i).toNat)
  case atStart => exact ⟨0, Nat.zero_le _, rfl, Below.refl _ _⟩
  case round =>
    obtain ⟨k, hk, rfl, hg⟩ := hrel
    by_cases hlt : k < n
    · obtain ⟨b, off, va, r, vc, rfl, hx, c0, hb, hi1, hi2, hi3⟩ := rdRow_at (HR.out.grew staysRow hg) hlt
      obtain ⟨b', off', va', r', vc', rfl, hx', c0', hb', hi1', hi2', hi3'⟩ := rdRow_at (HR'.out.grew staysRow hg) hlt
      rw [hx] at hx'
      obtain rfl := Option.some.inj hx'
      have HC := Lib.hid (fun W (g : Grew wr W) => (eqAbsStateS va r.length vc va' vc' r W (hi1.grew staysSt g) (hi1'.grew staysSt g) (by unfold maxLen at hi3; omega)))
      have HG := Lib.hid hg
      clear hx hx' hg hi1 hi2 hi3 hi1' hi2' hi3'
      obtain ⟨vn, hvn⟩ : ∃ n, r.length = n := ⟨_, rfl⟩
      rw [hvn] at HC c0 c0'
      clear hvn
      go_wp2_with fail
      first | refine wp_region_ext2 (by kernel_rfl) (by kernel_rfl) ?_ | refine wp_region_ext (by kernel_rfl) (by kernel_rfl) ?_
      repeat (go_big_quiet_step ((first | (with_reducible exact ext_grow (HC.out _ (gr))))))
      refine wpQuiet_nil ?_
      intro _ hw'
      obtain ⟨y, hw''⟩ := hw'
      subst hw''
      go_wp2
      go_roundw
      case rel => exact ⟨k + 1, by omega, by go_num, grew_ext HG.out y⟩
      case measure => simp [Go.RowKit.intOf]; omega
    · have HG := Lib.hid hg
      clear hg
      go_wp2
      go_ret
      exact ⟨rfl, HG.out⟩

theorem eqCrtCert (va : Option Addr) (vc : Nat) (oa : Option Addr) (oc : Nat) (va' : Option Addr) (vc' : Nat) (oa' : Option Addr) (oc' : Nat) (ss : List (List St)) (os : List Sum) (w : World) (hr : RdL ERow 1 w va ss.length ss) (hs : RdL ESum 3 w oa os.length os)
    (hr' : RdL ERow 1 w va' ss.length ss) (hs' : RdL ESum 3 w oa' os.length os) (hn : ss.length ≤ 9223372036854775807) (hn' : os.length ≤ 9223372036854775807) :
    Calls Tryz.prog 30 #[.agg #[.slice va ss.length vc, .slice oa os.length oc], .agg #[.slice va' ss.length vc', .slice oa' os.length oc']] w fun e w' => e = .returned (.bool true) ∧ Grew w w' := by
  have C1 := Lib.hid fun W (g : Grew w W) => eqAbsStateSS va ss.length vc va' vc' ss W (hr.grew staysRow g) (hr'.grew staysRow g) hn
  have C2 := Lib.hid fun W (g : Grew w W) => (show Calls Tryz.prog 64 #[.slice oa os.length oc, .slice oa' os.length oc'] W fun e w' => e = .returned (.bool true) ∧ Grew W w' by
    have := eqSumSumS oa oa' os.length os.length oc oc' os os W (hs.grew staysSum g) (hs'.grew staysSum g) hn' hn'
    simpa using this)
  clear hr hs hr' hs'
  obtain ⟨n1, hn1⟩ : ∃ n, ss.length = n := ⟨_, rfl⟩
  obtain ⟨n2, hn2⟩ : ∃ n, os.length = n := ⟨_, rfl⟩
  rw [hn1] at C1 ⊢
  rw [hn2] at C2 ⊢
  clear hn1 hn2 hn hn'
  have HB1 := Lib.hid ((Blk.new w 58 #[.slice va n1 vc, .slice oa n2 oc]).alloc (.cells #[.slice va' n1 vc', .slice oa' n2 oc'] 58))
  have HB2 := Lib.hid (Blk.new (w.alloc (.cells #[.slice va n1 vc, .slice oa n2 oc] 58)) 58 #[.slice va' n1 vc', .slice oa' n2 oc'])
  simp only [World.size_alloc] at HB2
  have HG := Lib.hid (show Grew w ((w.alloc (.cells #[.slice va n1 vc, .slice oa n2 oc] 58)).alloc (.cells #[.slice va' n1 vc', .slice oa' n2 oc'] 58)) from grew_al (grew_al (Below.refl _ w) _) _)
  go_enter Tryz.func30, Tryz.ntmps30
  go_wp2_with fail
  refine (C1.out _ HG.out).mono ?_
  rintro e w2 ⟨rfl, g2⟩
  have HD1 := Lib.hid (HB1.out.grew g2)
  have HD2 := Lib.hid (HB2.out.grew g2)
  have HH := Lib.hid (grew_tr HG.out g2)
  clear g2 HB1 HB2 HG C1
  have c1 := HD1.out.cell 1
  have cl := HD1.out.lt
  have d1 := HD2.out.cell 1
  have dl := HD2.out.lt
  simp only [List.getElem?_toArray, List.getElem?_cons_zero, List.getElem?_cons_succ] at c1 d1
  go_wp2_with fail
  refine (C2.out _ HH.out).mono ?_
  rintro e w3 ⟨rfl, g3⟩
  have HI := Lib.hid (grew_tr HH.out g3)
  clear g3
  go_wp2
  go_ret
  exact ⟨rfl, HI.out⟩

theorem eqCrtCertS (a : Option Addr) (n cap : Nat) (a' : Option Addr) (cap' : Nat) (xs : List Crt) (w : World) (hr : RdL ECrt 2 w a n xs) (hr' : RdL ECrt 2 w a' n xs) (hn : n ≤ 9223372036854775807) :
    Calls Tryz.prog 12 #[.slice a n cap, .slice a' n cap'] w fun e w' => e = .returned (.bool true) ∧ Grew w w' := by
  have HR := Lib.hid hr; clear hr
  have HR' := Lib.hid hr'; clear hr'
  go_enter Tryz.func12, Tryz.ntmps12
  go_wp2
  go_loopw [5] (fun i wr => ∃ k : Nat, k ≤ n ∧ i = .int .i64 k ∧ Grew w wr) (fun i _ => n - (Go.RowKit.intOf i).toNat)
  case atStart => exact ⟨0, Nat.zero_le _, rfl, Below.refl _ _⟩
  case round =>
    obtain ⟨k, hk, rfl, hg⟩ := hrel
    by_cases hlt : k < n
    · obtain ⟨b, off, va, ss, vc, oa, os, oc, rfl, hx, c0, c1, hb, hi1, hi2, hi3, hi4⟩ := rdCrt_at (HR.out.grew staysCrt hg) hlt
      obtain ⟨b', off', va', ss', vc', oa', os', oc', rfl, hx', c0', c1', hb', hi1', hi2', hi3', hi4'⟩ := rdCrt_at (HR'.out.grew staysCrt hg) hlt
      rw [hx] at hx'
      obtain ⟨rfl, rfl⟩ := Crt.mk.inj (Option.some.inj hx')
      have HC := Lib.hid (fun W (g : Grew wr W) => (eqCrtCert va vc oa oc va' vc' oa' oc' ss os W (hi1.grew staysRow g) (hi2.grew staysSum g) (hi1'.grew staysRow g) (hi2'.grew staysSum g) (by unfold maxLen at hi3; omega) (by unfold maxLen at hi4; omega)))
      have HG := Lib.hid hg
      clear hx hx' hg hi1 hi2 hi3 hi4 hi1' hi2' hi3' hi4'
      obtain ⟨vn, hvn⟩ : ∃ n, ss.length = n := ⟨_, rfl⟩
      obtain ⟨on, hon⟩ : ∃ n, os.length = n := ⟨_, rfl⟩
      rw [hvn, hon] at HC
      rw [hvn] at c0 c0'
      rw [hon] at c1 c1'
      clear hvn hon
      go_wp2_with fail
      first | refine wp_region_ext2 (by kernel_rfl) (by kernel_rfl) ?_ | refine wp_region_ext (by kernel_rfl) (by kernel_rfl) ?_
      repeat (go_big_quiet_step ((first | (with_reducible exact ext_grow (HC.out _ (gr))))))
      refine wpQuiet_nil ?_
      intro _ hw'
      obtain ⟨y, hw''⟩ := hw'
      subst hw''
      go_wp2
      go_roundw
      case rel => exact ⟨k + 1, by omega, by go_num, grew_ext HG.out y⟩
      case measure => simp [Go.RowKit.intOf]; omega
    · have HG := Lib.hid hg
      clear hg
      go_wp2
      go_ret
      exact ⟨rfl, HG.out⟩

end Go.Proofs.YtdddhnepanjmfaaGreat
