/- Lemmas and walks of this proof, some texts one behind the other. No condition. -/
import Derived.Test.YtdddhnepanjmfaaGreatCd
import Derived.Test.YtdddhnepanjmfaaGreatStN
set_option linter.unusedSimpArgs false
set_option linter.unusedVariables false
/- Certificates marked: what is marked is their own. No condition. -/
namespace Go.Proofs.YtdddhnepanjmfaaGreat
open Go.RowKit
set_option linter.unusedVariables false
set_option linter.unusedSimpArgs false
attribute [local go_sem] ext_cell ext_frozen ext_lt ext_le ext_le1 lt_s2 lt_s3 lt_s4 lt_s5 lt_s6 ext_lt1 ext_lt2 ext_lt3


/-- A number up to one. -/
def RetTo (N : Nat) (e : Ending) : Prop := ∃ K : Nat, e = .returned (.int .i64 K) ∧ K ≤ N

set_option maxHeartbeats 4000000 in
theorem markSumS3 (a : Option Addr) (n cap : Nat) (k0 : Nat) (cs : List Value) (B : Nat) (w : World) (ho : w.ownsRow B 100 3 (.slice a n cap) n cs) (hk0 : k0 ≤ 1125899906842624) (hm : n ≤ 1099511627776) :
    Calls Tryz.prog 33 #[.slice a n cap, .int .i64 k0] w fun e w' => e = .returned (.int .i64 ((k0 + n * 3 : Nat) : Int)) ∧
      (∃ ys, w'.ownsRow B 100 3 (.slice a n cap) n ys) ∧ Chg (fun b => (Value.slice a n cap).ownBlock = some b) w w' := by
  have HO := Lib.hid ho; clear ho
  go_enter Tryz.func33, Tryz.ntmps33
  go_wp2
  go_loopw [1, 5] (fun kk i wr => ∃ k K : Nat, k ≤ n ∧ K = k0 + k * 3 ∧ i = .int .i64 k ∧ kk = .int .i64 K ∧ Chg (fun b => (Value.slice a n cap).ownBlock = some b) w wr ∧
    ∃ ys, wr.ownsRow B 100 3 (.slice a n cap) n ys) (fun _ i _ => n - (Go.RowKit.intOf i).toNat)
  case atStart => exact ⟨0, k0, Nat.zero_le _, by omega, rfl, rfl, Chg.refl _ _, _, HO.out⟩
  case round =>
    obtain ⟨k, K, hk, hK, rfl, rfl, hg, ys, how⟩ := hrel
    have hK1 : K ≤ 1135000000000000000 := by omega
    have HK := Lib.hid hK; clear hK
    by_cases hlt : k < n
    · obtain ⟨g, rfl⟩ : ∃ g, a = some ⟨g, 0, none⟩ := by
        rcases how.2 with ⟨h1, h2⟩ | ⟨g, cap', cur, h1, _⟩
        · omega
        · simp only [Value.slice.injEq] at h1
          exact ⟨g, h1.1⟩
      have HG := Lib.hid hg; clear hg
      have HW := Lib.hid how; clear how
      obtain ⟨y0, e0⟩ := own_some HW.out (j := k * 3) (by omega)
      obtain ⟨y1, e1⟩ := own_some HW.out (j := k * 3 + 1) (by omega)
      obtain ⟨y2, e2⟩ := own_some HW.out (j := k * 3 + 2) (by omega)
      have f0 := fun j => HW.out.frozenAt j
      go_wp2
      go_roundw
      case rel =>
        obtain ⟨ho', hg'⟩ := own_sets ([.bool ((K : Int) % 3 == 0), .int .i64 ((K : Int) + 1), .int .i64 ((K : Int) + 1 + 1)]) _ _ (k * 3) HW.out
        refine ⟨k + 1, K + 3, by omega, by have := HK.out; omega, by go_num, by go_num, (HG.out.trans (Chg.of_grownBy hg') (fun _ _ h => h) (fun i _ h => h)), _, ho'⟩
      case measure => simp [Go.RowKit.intOf]; omega
    · obtain rfl : k = n := by omega
      have HW := Lib.hid how; clear how
      have HG := Lib.hid hg; clear hg
      go_wp2
      go_ret
      exact ⟨by rw [HK.out]; rfl, ⟨_, HW.out⟩, HG.out⟩

set_option maxHeartbeats 2000000 in
theorem markAbsStateS (l u : Nat) (ms : List StM) (a : Option Addr) (n cap : Nat) (k0 : Nat) (w : World) (h : OwnR 106 4 fSt QSt l u w (.slice a n cap) ms) (hb : k0 + 3 * bulkR (ms.map (fun m : StM => m.1)) ≤ 1000000000000000) (hq : bulkR (ms.map (fun m : StM => m.1)) ≤ 1000000000000) :
    Calls Tryz.prog 66 #[.slice a n cap, .int .i64 k0] w fun e w' => RetTo (k0 + 3 * bulkR (ms.map (fun m : StM => m.1))) e ∧ Chg (fun b => l ≤ b ∧ b < u) w w' := by
  obtain ⟨A, cc, ee⟩ := owns_slice h.1
  simp only [Value.slice.injEq] at ee
  obtain ⟨-, ee, -⟩ := ee
  have HM := Lib.hid (MrkR.start h)
  have HB := Lib.hid (And.intro hb hq)
  have hn : n ≤ 1000000000000000 := by unfold bulkR at hb; simp only [List.length_map] at hb; omega
  have HN := Lib.hid ee
  clear h hb hq ee
  go_enter Tryz.func66, Tryz.ntmps66
  go_wp2
  go_loopw [1, 5] (fun kk i wr => ∃ k K : Nat, k ≤ n ∧ i = .int .i64 k ∧ kk = .int .i64 K ∧ Hid (K ≤ k0 + 3 * (k + (((ms.map (fun m : StM => m.1)).take k).map (fun s : St => s.vars.length)).sum)) ∧ MrkR 106 4 fSt QSt l u w (.slice a n cap) ms (k * 4) k wr) (fun _ i _ => n - (Go.RowKit.intOf i).toNat)
  case atStart => exact ⟨0, k0, Nat.zero_le _, rfl, rfl, Lib.hid (by omega), by simpa using HM.out⟩
  case round =>
    clear HM
    obtain ⟨k, K, hk, rfl, rfl, hK, hmk⟩ := hrel
    by_cases hlt : k < n
    · obtain ⟨m, hm⟩ : ∃ m, ms[k]? = some m := ⟨_, List.getElem?_eq_getElem (by have := HN.out; omega)⟩
      have hx : (ms.map (fun m : StM => m.1))[k]? = some ((fun m : StM => m.1) m) := by rw [List.getElem?_map, hm]; rfl
      have HS := Lib.hid (sum_take (fun s : St => s.vars.length) hx)
      have HS' := Lib.hid (sum_take_le (fun s : St => s.vars.length) (ms.map (fun m : StM => m.1)) (k + 1))
      have HT := Lib.hid (show (ms.map (fun m : StM => m.1)).length = n by simpa using HN.out.symm)
      have hKb : K ≤ 1000000000000000 := by
        have h1 := HS.out; have h2 := HS'.out; have h3 := hK.out; have h4 := HB.out; have h5 := HT.out
        unfold bulkR at h4; omega
      have HK := Lib.hid hK.out
      have HM := Lib.hid hmk
      have HX := Lib.hid hm
      clear hx hK hmk
      obtain ⟨s, v⟩ := m
      obtain ⟨g, rfl, -, c1, cf, cl, cy⟩ := MrkR.cell (f := fSt) (C := 4) (t := 1) (u := v) (fun _ => rfl) (HM.out.weak (K' := k * 4 + 1) (by omega) (Nat.le_refl _)) hm rfl (Nat.le_refl _)
      have hnn := HN.out
      obtain ⟨y0, e0⟩ := cy (k * 4) (by omega)
      have HM1 := Lib.hid (MrkR.set goodSt (HM.out.weak (K' := k * 4 + 1) (by omega) (Nat.le_refl _)) (p := k * 4) (by omega) (.bool (((K : Int) % 3) == 0)))
      obtain ⟨l2, u2, hq, hl2, hu2, hgl, hin⟩ := MrkR.inner goodSt HM1.out hm
      obtain ⟨ho, hou, -, -⟩ := hq
      simp only at ho hou
      obtain ⟨va, vc, rfl⟩ := owns_slice ho
      obtain ⟨vn, hvn⟩ : ∃ n, s.vars.length = n := ⟨_, rfl⟩
      simp only [hvn] at ho c1 HM1 hou
      have HSu := Lib.hid (show (((ms.map (fun m : StM => m.1)).take (k + 1)).map (fun s : St => s.vars.length)).sum = (((ms.map (fun m : StM => m.1)).take k).map (fun s : St => s.vars.length)).sum + vn by have := HS.out; simp only [hvn] at this; exact this)
      have hvb : vn ≤ 1000000000000 := by
        have h1 := HSu.out; have h2 := HS'.out; have h4 := HB.out
        unfold bulkR at h4; omega
      have C := markItvItvS va vn vc (K + 1) _ l2 _ ho (by omega) (by omega)
      have HC := Lib.hid C
      have HIn := Lib.hid (fun (W : World) (c : Chg (fun b => (Value.slice va vn vc).ownBlock = some b) (wr.setCell ⟨g, k * 4, none⟩ (.bool (((K : Int) % 3) == 0))) W) => hin (Chg.trans (Chg.refl (fun b => l2 ≤ b ∧ b < u2) _) c (fun _ _ e => e) (fun i _ e => ⟨(ho.lt i e).1, hou i e⟩)))
      have HVN := Lib.hid hvn
      clear hm hin ho hou C cy HS HM hvn hgl hnn
      go_wp2_with fail
      refine HC.out.mono ?_
      rintro e w5 ⟨rfl, o5, c5⟩
      have HM5 := Lib.hid (HIn.out w5 c5)
      clear o5 c5 HC HIn HM1 c1 e0 cl cf
      obtain ⟨g', e1, -, -, cf, cl, cy⟩ := MrkR.cell (f := fSt) (C := 4) (K := k * 4 + 1) (t := 1) (u := .slice va vn vc) (fun _ => rfl) (HM5.out.weak (I' := k + 1) (Nat.le_refl _) (Nat.le_refl _)) HX.out (by simp only [fSt, HVN.out]; rfl) (Nat.le_refl _)
      obtain rfl : g = g' := by simpa using e1
      obtain ⟨y2, e2⟩ := cy (k * 4 + 2) (by have := HN.out; omega)
      obtain ⟨y3, e3⟩ := cy (k * 4 + 3) (by have := HN.out; omega)
      have HM6 := Lib.hid ((HM5.out.weak (K' := k * 4 + 4) (by omega) (Nat.le_refl _)))
      clear cy e1 HM5
      go_wp2
      go_roundw
      case rel => exact ⟨k + 1, K + 1 + vn * 2 + 2, by omega, by go_num, by go_num, Lib.hid (by have h1 := HK.out; have h2 := HSu.out; omega), by rw [show (k + 1) * 4 = k * 4 + 4 by omega]; exact MrkR.set goodSt (MrkR.set goodSt HM6.out (by omega) _) (by omega) _⟩
      case measure => simp [Go.RowKit.intOf]; omega
    · obtain rfl : k = n := by omega
      have HM := Lib.hid hmk.1
      have HF := Lib.hid (show K ≤ k0 + 3 * bulkR (ms.map (fun m : StM => m.1)) by
        have h1 := hK.out
        have h2 := HN.out
        rw [List.take_of_length_le (by rw [List.length_map]; omega)] at h1
        unfold bulkR
        rw [List.length_map]
        omega)
      clear hK hmk
      go_wp2
      go_ret
      exact ⟨⟨K, rfl, HF.out⟩, HM.out⟩

set_option maxHeartbeats 2000000 in
theorem markAbsStateSS (l u : Nat) (ms : List RowM) (a : Option Addr) (n cap : Nat) (k0 : Nat) (w : World) (h : OwnR 92 1 fRow QRow l u w (.slice a n cap) ms) (hb : k0 + 3 * bulkSS (ms.map pRow) ≤ 1000000000000000) (hq : bulkSS (ms.map pRow) ≤ 1000000000000) :
    Calls Tryz.prog 32 #[.slice a n cap, .int .i64 k0] w fun e w' => RetTo (k0 + 3 * bulkSS (ms.map pRow)) e ∧ Chg (fun b => l ≤ b ∧ b < u) w w' := by
  obtain ⟨A, cc, ee⟩ := owns_slice h.1
  simp only [Value.slice.injEq] at ee
  obtain ⟨-, ee, -⟩ := ee
  have HM := Lib.hid (MrkR.start h)
  have HB := Lib.hid (And.intro hb hq)
  have hn : n ≤ 1000000000000000 := by unfold bulkSS at hb; simp only [List.length_map] at hb; omega
  have HN := Lib.hid ee
  clear h hb hq ee
  go_enter Tryz.func32, Tryz.ntmps32
  go_wp2
  go_loopw [1, 5] (fun kk i wr => ∃ k K : Nat, k ≤ n ∧ i = .int .i64 k ∧ kk = .int .i64 K ∧ Hid (K ≤ k0 + 3 * (k + (((ms.map pRow).take k).map bulkR).sum)) ∧ MrkR 92 1 fRow QRow l u w (.slice a n cap) ms (k * 1) k wr) (fun _ i _ => n - (Go.RowKit.intOf i).toNat)
  case atStart => exact ⟨0, k0, Nat.zero_le _, rfl, rfl, Lib.hid (by omega), by simpa using HM.out⟩
  case round =>
    clear HM
    obtain ⟨k, K, hk, rfl, rfl, hK, hmk⟩ := hrel
    by_cases hlt : k < n
    · obtain ⟨m, hm⟩ : ∃ m, ms[k]? = some m := ⟨_, List.getElem?_eq_getElem (by have := HN.out; omega)⟩
      have hx : (ms.map pRow)[k]? = some (pRow m) := by rw [List.getElem?_map, hm]; rfl
      have HS := Lib.hid (sum_take bulkR hx)
      have HS' := Lib.hid (sum_take_le bulkR (ms.map pRow) (k + 1))
      have HT := Lib.hid (show (ms.map pRow).length = n by simpa using HN.out.symm)
      have hKb : K ≤ 1000000000000000 := by
        have h1 := HS.out; have h2 := HS'.out; have h3 := hK.out; have h4 := HB.out; have h5 := HT.out
        unfold bulkSS at h4; omega
      have HK := Lib.hid hK.out
      have HM := Lib.hid hmk
      have HX := Lib.hid hm
      clear hx hK hmk
      obtain ⟨ms2, v⟩ := m
      obtain ⟨g, rfl, -, c0, cf, cl, -⟩ := MrkR.cell (f := fRow) (C := 1) (t := 0) (u := v) (fun _ => rfl) HM.out hm rfl (Nat.le_refl _)
      rw [Nat.mul_one, Nat.add_zero] at c0
      obtain ⟨l2, u2, hq, hl2, hu2, hgl, hin⟩ := MrkR.inner goodRow HM.out hm
      have hq : OwnR 106 4 fSt QSt l2 u2 wr v ms2 := hq
      obtain ⟨va, vc, rfl⟩ := owns_slice hq.1
      have C := markAbsStateS l2 u2 ms2 va ms2.length vc K wr hq (by
        have h1 := HS.out; have h2 := HS'.out; have h3 := HK.out; have h4 := HB.out; have h5 := HT.out
        simp only [pRow] at h1
        unfold bulkSS at h4; omega) (by
        have h1 := HS.out; have h2 := HS'.out; have h3 := HK.out; have h4 := HB.out; have h5 := HT.out
        simp only [pRow] at h1
        unfold bulkSS at h4; omega)
      have HC := Lib.hid C
      have HIn := Lib.hid (fun (W : World) (c : Chg (fun b => l2 ≤ b ∧ b < u2) wr W) => hin c)
      obtain ⟨vn, hvn⟩ : ∃ n, ms2.length = n := ⟨_, rfl⟩
      rw [hvn] at HC c0
      clear hm hin hq C HM hvn hgl
      go_wp2_with fail
      refine HC.out.mono ?_
      rintro e w5 ⟨⟨K5, rfl, hK5⟩, c5⟩
      have HM5 := Lib.hid (HIn.out w5 c5)
      have HK5 := Lib.hid hK5
      clear c5 HC HIn hK5 c0 cl cf
      go_wp2
      go_roundw
      case rel => exact ⟨k + 1, K5, by omega, by go_num, rfl, Lib.hid (by have h1 := HK.out; have h2 := HS.out; have h3 := HK5.out; simp only [pRow] at h2; omega), HM5.out.weak (by omega) (Nat.le_refl _)⟩
      case measure => simp [Go.RowKit.intOf]; omega
    · obtain rfl : k = n := by omega
      have HM := Lib.hid hmk.1
      have HF := Lib.hid (show K ≤ k0 + 3 * bulkSS (ms.map pRow) by
        have h1 := hK.out
        have h2 := HN.out
        rw [List.take_of_length_le (by rw [List.length_map]; omega)] at h1
        unfold bulkSS
        rw [List.length_map]
        omega)
      clear hK hmk
      go_wp2
      go_ret
      exact ⟨⟨K, rfl, HF.out⟩, HM.out⟩

set_option maxHeartbeats 2000000 in
theorem markCrtCertS (l u : Nat) (ms : List CrtM) (a : Option Addr) (n cap : Nat) (k0 : Nat) (w : World) (h : OwnR 58 2 fCrt QCrt l u w (.slice a n cap) ms) (hb : k0 + 3 * bulkCs (ms.map pCrt) ≤ 1000000000000000) (hq : bulkCs (ms.map pCrt) ≤ 1000000000000) :
    Calls Tryz.prog 14 #[.slice a n cap, .int .i64 k0] w fun e w' => RetTo (k0 + 3 * bulkCs (ms.map pCrt)) e ∧ Chg (fun b => l ≤ b ∧ b < u) w w' := by
  obtain ⟨A, cc, ee⟩ := owns_slice h.1
  simp only [Value.slice.injEq] at ee
  obtain ⟨-, ee, -⟩ := ee
  have HM := Lib.hid (MrkR.start h)
  have HB := Lib.hid (And.intro hb hq)
  have hn : n ≤ 1000000000000000 := by unfold bulkCs at hb; simp only [List.length_map] at hb; omega
  have HN := Lib.hid ee
  clear h hb hq ee
  go_enter Tryz.func14, Tryz.ntmps14
  go_wp2
  go_loopw [1, 5] (fun kk i wr => ∃ k K : Nat, k ≤ n ∧ i = .int .i64 k ∧ kk = .int .i64 K ∧ Hid (K ≤ k0 + 3 * (k + (((ms.map pCrt).take k).map bulkC).sum)) ∧ MrkR 58 2 fCrt QCrt l u w (.slice a n cap) ms (k * 2) k wr) (fun _ i _ => n - (Go.RowKit.intOf i).toNat)
  case atStart => exact ⟨0, k0, Nat.zero_le _, rfl, rfl, Lib.hid (by omega), by simpa using HM.out⟩
  case round =>
    clear HM
    obtain ⟨k, K, hk, rfl, rfl, hK, hmk⟩ := hrel
    by_cases hlt : k < n
    · obtain ⟨m, hm⟩ : ∃ m, ms[k]? = some m := ⟨_, List.getElem?_eq_getElem (by have := HN.out; omega)⟩
      have hx : (ms.map pCrt)[k]? = some (pCrt m) := by rw [List.getElem?_map, hm]; rfl
      have HS := Lib.hid (sum_take bulkC hx)
      have HS' := Lib.hid (sum_take_le bulkC (ms.map pCrt) (k + 1))
      have HT := Lib.hid (show (ms.map pCrt).length = n by simpa using HN.out.symm)
      have hKb : K ≤ 1000000000000000 := by
        have h1 := HS.out; have h2 := HS'.out; have h3 := hK.out; have h4 := HB.out; have h5 := HT.out
        unfold bulkCs at h4; omega
      have HK := Lib.hid hK.out
      have HM := Lib.hid hmk
      have HX := Lib.hid hm
      clear hx hK hmk
      obtain ⟨⟨ms2, v⟩, os, v2⟩ := m
      obtain ⟨g, rfl, -, c0, cf, cl, -⟩ := MrkR.cell (f := fCrt) (C := 2) (t := 0) (u := v) (fun _ => rfl) HM.out hm rfl (Nat.le_refl _)
      obtain ⟨g', e1, -, c1, -⟩ := MrkR.cell (f := fCrt) (C := 2) (t := 1) (u := v2) (fun _ => rfl) HM.out hm rfl (by omega)
      obtain rfl : g = g' := by simpa using e1
      rw [Nat.add_zero] at c0
      obtain ⟨l2, u2, ⟨k2, hq, ho, hou, hk2, -⟩, hl2, hu2, hgl, hin⟩ := MrkR.inner goodCrt HM.out hm
      have hq : OwnR 92 1 fRow QRow l2 k2 wr v ms2 := hq
      simp only at ho hou
      have hlq := OwnR.lohi hq
      have hgl2 : g < l2 := hgl g rfl
      clear hgl
      obtain ⟨va, vc, rfl⟩ := owns_slice hq.1
      obtain ⟨oa, oc, rfl⟩ := owns_slice ho
      have HBk := Lib.hid (show K + 3 * (bulkSS (ms2.map pRow) + os.length) ≤ 1000000000000000 ∧ bulkSS (ms2.map pRow) + os.length ≤ 1000000000000 by
        have h1 := HS.out; have h2 := HS'.out; have h3 := HK.out; have h4 := HB.out; have h5 := HT.out
        simp only [pCrt, pSs, bulkC] at h1
        unfold bulkCs at h4; omega)
      have HSu := Lib.hid (show (((ms.map pCrt).take (k + 1)).map bulkC).sum = (((ms.map pCrt).take k).map bulkC).sum + (bulkSS (ms2.map pRow) + os.length) from HS.out)
      have C := markAbsStateSS l2 k2 ms2 va ms2.length vc K wr hq (by have := HBk.out; omega) (by have := HBk.out; omega)
      have HC := Lib.hid C
      have HIn := Lib.hid (fun (W : World) (c : Chg (fun b => l2 ≤ b ∧ b < u2) wr W) => hin c)
      have HO := Lib.hid ho
      have HOU := Lib.hid hou
      obtain ⟨B1, hB1⟩ : ∃ n, bulkSS (ms2.map pRow) = n := ⟨_, rfl⟩
      rw [hB1] at HC HBk HSu
      obtain ⟨vn, hvn⟩ : ∃ n, ms2.length = n := ⟨_, rfl⟩
      obtain ⟨on, hon⟩ : ∃ n, os.length = n := ⟨_, rfl⟩
      rw [hvn] at HC
      simp only [hon] at HO HOU HBk HSu
      have c0' : wr.cell? ⟨g, k * 2, none⟩ = some (.slice va vn vc) := by rw [c0]; simp [hvn]
      have c1' : wr.cell? ⟨g, k * 2 + 1, none⟩ = some (.slice oa on oc) := by rw [c1]; simp [hon]
      clear hm hin hq ho hou C HS hvn hon hB1 c0 c1
      go_wp2_with fail
      refine HC.out.mono ?_
      rintro e w5 ⟨⟨K5, rfl, hK5⟩, c5⟩
      have HO5 := Lib.hid (owns_chg HO.out c5 (fun b hb e => by have := (HO.out.lt b hb).1; omega))
      have d1 : w5.cell? ⟨g, k * 2 + 1, none⟩ = some (.slice oa on oc) := (World.cell?_of_block (w := wr) (a := ⟨g, k * 2 + 1, none⟩) (c5.block g cl (fun e => by omega))).trans c1'
      have dl : g < w5.heap.size := Nat.lt_of_lt_of_le cl c5.size
      have hob : on ≤ 1000000000000 := by have := HBk.out; omega
      have hK5b : K5 + 3 * on ≤ 1000000000000000 := by have := HBk.out; omega
      have HC2 := Lib.hid (markSumS3 oa on oc K5 _ k2 w5 HO5.out (by omega) (by omega))
      have HC5 := Lib.hid c5
      have HK5 := Lib.hid hK5
      clear c5 hK5 HC c0' c1' cl cf
      go_wp2_with fail
      refine HC2.out.mono ?_
      rintro e w6 ⟨rfl, -, c6⟩
      have HM6 := Lib.hid (HIn.out w6 ((HC5.out.trans c6 (H := fun b => l2 ≤ b ∧ b < u2) (fun i _ e => by omega) (fun i _ e => ⟨by have := (HO.out.lt i e).1; omega, HOU.out i e⟩))))
      clear c6 HC5 HC2 HIn
      go_wp2
      go_roundw
      case rel => exact ⟨k + 1, K5 + on * 3, by omega, by go_num, by go_num, Lib.hid (by have h1 := HK.out; have h2 := HSu.out; have h3 := HK5.out; omega), HM6.out.weak (by omega) (Nat.le_refl _)⟩
      case measure => simp [Go.RowKit.intOf]; omega
    · obtain rfl : k = n := by omega
      have HM := Lib.hid hmk.1
      have HF := Lib.hid (show K ≤ k0 + 3 * bulkCs (ms.map pCrt) by
        have h1 := hK.out
        have h2 := HN.out
        rw [List.take_of_length_le (by rw [List.length_map]; omega)] at h1
        unfold bulkCs
        rw [List.length_map]
        omega)
      clear hK hmk
      go_wp2
      go_ret
      exact ⟨⟨K, rfl, HF.out⟩, HM.out⟩

end Go.Proofs.YtdddhnepanjmfaaGreat

/- A program's marking, with the count's bound. No condition. -/
namespace Go.Proofs.YtdddhnepanjmfaaGreat
open Go.RowKit
set_option linter.unusedVariables false
set_option linter.unusedSimpArgs false
attribute [local go_sem] ext_cell ext_frozen ext_lt ext_le ext_le1 lt_s2 lt_s3 lt_s4 lt_s5 lt_s6 ext_lt1 ext_lt2 ext_lt3

set_option maxHeartbeats 4000000 in
theorem markPrcProcSB (a : Option Addr) (n cap : Nat) (k0 : Nat) (B N : Nat) (ms : List (Prc × Value)) (w : World) (ho : OwnP w B (.slice a n cap) n ms) (hB : BlkP B N (.slice a n cap) ms) (hk0 : k0 ≤ 1000000) (hn : n ≤ 1048576) (hs : ∀ m, m ∈ ms → m.1.code.length ≤ 1048576) :
    Calls Tryz.prog 31 #[.slice a n cap, .int .i64 k0] w fun e w' => (∃ K : Nat, e = .returned (.int .i64 K) ∧ K ≤ 11000000000000) ∧ Chg (fun b => B ≤ b ∧ b < N) w w' := by
  have HML := Lib.hid ho.1
  have HI : Hid (MInv w B N n cap a ms w) := Lib.hid ⟨Chg.refl _ _, ⟨_, ho.2.1, fun k m h => prcCells_get ms k m h⟩, fun m hm => ⟨_, ho.2.2 m hm⟩⟩
  have HB := Lib.hid hB; clear hB
  have HS := Lib.hid hs; clear hs ho
  go_enter Tryz.func31, Tryz.ntmps31
  go_wp2
  go_loopw [1, 5] (fun kk i wr => ∃ k K : Nat, k ≤ n ∧ K ≤ k0 + k * 8388610 ∧ i = .int .i64 k ∧ kk = .int .i64 K ∧ MInv w B N n cap a ms wr) (fun _ i _ => n - (intOf i).toNat)
  case atStart => exact ⟨0, k0, Nat.zero_le _, by omega, rfl, rfl, HI.out⟩
  case round =>
    clear HI
    obtain ⟨k, K, hk, hK, rfl, rfl, hg, ⟨ys, how, hys⟩, hcs⟩ := hrel
    have hKb : K ≤ 11000000000000 := by omega
    have HK := Lib.hid hK; clear hK
    by_cases hlt : k < n
    · obtain ⟨g, rfl⟩ : ∃ g, a = some ⟨g, 0, none⟩ := by
        rcases how.2 with ⟨h1, h2⟩ | ⟨g, cap', cur, h1, _⟩
        · omega
        · simp only [Value.slice.injEq] at h1
          exact ⟨g, h1.1⟩
      obtain ⟨m, hm⟩ : ∃ m, ms[k]? = some m := ⟨_, List.getElem?_eq_getElem (by have := HML.out; omega)⟩
      have hmm : m ∈ ms := List.mem_of_getElem? hm
      obtain ⟨xs, hox⟩ := hcs m hmm
      have hls := HS.out m hmm
      obtain ⟨p, v⟩ := m
      obtain ⟨lo, hi, is⟩ := p
      dsimp only at hox hls
      obtain ⟨ia, ic, rfl⟩ := owns_slice hox
      have e2 : wr.cell? ⟨g, k * 3 + 2, none⟩ = some (.slice ia is.length ic) := (how.cellAt (k * 3 + 2) (by have := how.1; omega)).trans (hys k _ hm)
      obtain ⟨y0, e0⟩ := own_some how (j := k * 3) (by omega)
      obtain ⟨y1, e1⟩ := own_some how (j := k * 3 + 1) (by omega)
      have f0 := fun j => how.frozenAt j
      have HM := Lib.hid hm; clear hm
      have HY := Lib.hid hys; clear hys
      have HC := Lib.hid hcs; clear hcs
      have HG := Lib.hid hg; clear hg
      have HW := Lib.hid how; clear how
      have HX := Lib.hid hox; clear hox
      obtain ⟨K1, hK1⟩ : ∃ K1 : Nat, K1 = K + 1 := ⟨_, rfl⟩
      obtain ⟨K2, hK2⟩ : ∃ K2 : Nat, K2 = K + 2 := ⟨_, rfl⟩
      have w1 : IntKind.i64.wrap ((K : Int) + 1) = (K1 : Int) := by rw [show (K : Int) + 1 = (K1 : Int) from by omega]; first | exact IntWalk.i64_in (by omega) (by omega) | exact IntWalk.i64_in _ (by omega) (by omega) | go_unwrap
      have w2 : IntKind.i64.wrap ((K1 : Int) + 1) = (K2 : Int) := by rw [show (K1 : Int) + 1 = (K2 : Int) from by omega]; first | exact IntWalk.i64_in (by omega) (by omega) | exact IntWalk.i64_in _ (by omega) (by omega) | go_unwrap
      have hKb2 : K2 ≤ 11000000000002 := by omega
      have HK2 := Lib.hid hK2; clear hK2
      have HK1 := Lib.hid hK1; clear hK1
      obtain ⟨ho', hg'⟩ := own_sets ([.int .i64 (K : Int), .int .i64 (K1 : Int)]) _ _ (k * 3) HW.out
      have HO' := Lib.hid ho'; clear ho'
      have HG' := Lib.hid hg'; clear hg'
      go_wp2_with fail
      have hgi : ∀ b, (some g : Option Nat) = some b → (Value.slice ia is.length ic).ownBlock ≠ some b := fun b hb => own_ne HW.out HX.out (by decide) (b := b) (by rw [← hb]; rfl)
      have hox2 := owns_chg HX.out (Chg.of_grownBy HG'.out) (fun b hb hF => hgi b hF hb)
      refine (markInsInsS ia is.length ic K2 xs B _ hox2 (by omega) (by omega)).mono ?_
      rintro e w3 ⟨rfl, o3, c3⟩
      have hnew : MInv w B N n cap (some ⟨g, 0, none⟩) ms w3 := by
        refine ⟨Chg.trans (Chg.trans HG.out (Chg.of_grownBy HG'.out) (fun _ _ h => h) (fun i _ h => ?_)) c3 (fun _ _ h => h) (fun i _ h => ?_), ⟨_, owns_chg HO'.out c3 (fun b hb hF => ?_), fun k' m' hm' => ?_⟩, fun m' hm' => ?_⟩
        · exact HB.out i (.inl (by rw [← h]; rfl))
        · exact HB.out i (.inr ⟨_, List.mem_of_getElem? HM.out, h⟩)
        · exact hgi b hb hF
        · rw [sets_get _ _ _ _ (by rw [HW.out.1]; simp only [List.length_cons, List.length_nil]; omega), if_neg (by simp only [List.length_cons, List.length_nil]; omega)]
          exact HY.out k' m' hm'
        · obtain ⟨xs', hx'⟩ := HC.out m' hm'
          have hx2 := owns_chg hx' (Chg.of_grownBy HG'.out) (fun b hb hF => own_ne HW.out hx' (by decide) (b := b) (by rw [← hF]; rfl) hb)
          exact own_mark hx2 hox2 o3 c3
      have HN := Lib.hid hnew
      clear hnew hgi hox2 o3 c3 e0 e1 e2 f0 HO' HG' HG HC HY HX
      go_wp2
      go_roundw
      case rel => exact ⟨k + 1, K2 + is.length * 8, by omega, by have := HK.out; have := HK2.out; omega, by go_num, rfl, HN.out⟩
      case measure => simp [intOf]; omega
    · have HG := Lib.hid hg; clear hg how hys hcs
      go_wp2
      go_ret
      exact ⟨⟨K, rfl, hKb⟩, HG.out⟩

theorem markPrgProgB (a : Option Addr) (n cap : Nat) (k0 : Nat) (B N : Nat) (ms : List (Prc × Value)) (w : World) (ho : OwnP w B (.slice a n cap) n ms) (hB : BlkP B N (.slice a n cap) ms) (hk0 : k0 ≤ 1000000) (hn : n ≤ 1048576) (hs : ∀ m, m ∈ ms → m.1.code.length ≤ 1048576) :
    Calls Tryz.prog 13 #[.agg #[.slice a n cap], .int .i64 k0] w fun e w' => ∃ K : Nat, e = .returned (.int .i64 K) ∧ K ≤ 11000000000000 ∧ Chg (fun b => B ≤ b ∧ b < N) w w' := by
  have C := markPrcProcSB a n cap k0 B N ms (w.alloc (.cells #[.slice a n cap] 34)) (ho.grew (grew_al (Below.refl _ _) _)) hB hk0 hn hs
  have HC := Lib.hid C; clear C ho hB hs
  go_enter Tryz.func13, Tryz.ntmps13
  go_wp2_with fail
  refine HC.out.mono ?_
  rintro e w1 ⟨⟨K, rfl, hK⟩, g1⟩
  have G1 := Lib.hid g1; clear g1
  go_wp2
  go_ret
  exact ⟨K, rfl, hK, (Chg.of_below (F := fun b => B ≤ b ∧ b < N) (grew_al (Below.refl _ _) _)).trans G1.out (fun _ _ h => h) (fun _ _ h => h)⟩
end Go.Proofs.YtdddhnepanjmfaaGreat
