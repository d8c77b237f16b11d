/- Rows of texts: as answers; compared, marked, held. No condition. -/
import Derived.Test.YtcdfomoglkhboaaDoorTw
import Derived.Test.YtcdfomoglkhboaaDoorBlk
namespace Go.Proofs.YtcdfomoglkhboaaDoor
open Go.RowKit Go.Lib
set_option linter.unusedVariables false
set_option linter.unusedSimpArgs false
attribute [local go_sem] ext_cell ext_frozen ext_lt ext_le ext_le1 lt_s2 lt_s3 lt_s4 lt_s5 lt_s6 ext_lt1 ext_lt2 ext_lt3
attribute [local go_sem] ByteArray.mk_append_mk

def strV (x : List UInt8) : Value := .string ⟨x.toArray⟩
def strs (ls : List (List UInt8)) : List Value := ls.map fun x => .string ⟨x.toArray⟩
theorem strInfo : (Tryd.prog.info? 9).map (fun i => (i.zero, i.size, i.bytes)) = some (some (.string ByteArray.empty), 1, 16) := by kernel_rfl
theorem strEl : El Tryd.prog 32 9 (.string ByteArray.empty) 1 16 := El.mk' strInfo Tryd.underlying32 rfl (by omega)
theorem str_one (ls : List (List UInt8)) : ∀ u ∈ strs ls, u.oneCell' = true := by
  intro u hu
  obtain ⟨x, _, rfl⟩ := List.mem_map.1 hu
  rfl
theorem strs_app (xs ys : List (List UInt8)) : strs (xs ++ ys) = strs xs ++ strs ys := by simp [strs]
theorem strs_len (xs : List (List UInt8)) : (strs xs).length = xs.length := by simp [strs]
theorem strs_at (xs : List (List UInt8)) (j : Nat) : (strs xs)[j]? = (xs[j]?).map fun x => Value.string ⟨x.toArray⟩ := by simp [strs]
/-- The answer: a row of texts of the call's own. -/
def RetSs (L : List (List UInt8)) (w : World) (e : Ending) (w' : World) : Prop := ∃ a c, e = .returned (.slice a L.length c) ∧ w'.ownsRow w.heap.size 9 1 (.slice a L.length c) L.length (strs L) ∧ Grew w w'
theorem retSs_of {P : Program} {f : FuncId} {args : Array Value} {w : World} {L S : List (List UInt8)} (h : Calls P f args w fun e w' => RetSs L w e w') (hS : L = S) : Calls P f args w fun e w' => RetSs S w e w' := hS ▸ h
theorem Rd.atS {w : World} {a : Option Addr} {n : Nat} {zs : List (List UInt8)} (h : Rd w a n 1 (strs zs)) {k : Nat} (hk : k < n) :
    ∃ b off x, a = some ⟨b, off, none⟩ ∧ zs[k]? = some x ∧ w.cell? ⟨b, off + k, none⟩ = some (.string ⟨x.toArray⟩) := by
  obtain ⟨h1, h2⟩ := h
  rw [strs_len] at h1
  rcases h2 with h2 | ⟨b, off, rfl, h2⟩
  · have := congrArg List.length h2
    rw [strs_len, List.length_nil] at this
    omega
  · have hk' : k < zs.length := by omega
    have hx : zs[k]? = some zs[k] := List.getElem?_eq_getElem hk'
    exact ⟨b, off, zs[k], rfl, hx, h2 k _ (by rw [strs_at, hx]; rfl)⟩

theorem eqStrG (a : Option Addr) (n cap : Nat) (a' : Option Addr) (cap' : Nat) (zs : List (List UInt8)) (w : World) (hr : Rd w a n 1 (strs zs)) (hr' : Rd w a' n 1 (strs zs)) (hm : n ≤ 140737488351232) :
    Calls Tryd.prog 12 #[.slice a n cap, .slice a' n cap'] w fun e w' => e = .returned (.bool true) ∧ Grew w w' := by
  have HR := Lib.hid hr; clear hr
  have HR' := Lib.hid hr'; clear hr'
  go_enter Tryd.func12, Tryd.ntmps12
  go_wp2
  go_loopw [5] (fun i wr => ∃ k : Nat, k ≤ n ∧ i = .int .i64 k ∧ (∃ q, wr = w.drewN q)) (fun i _ => n - (intOf i).toNat)
  case atStart => exact ⟨0, Nat.zero_le _, rfl, ⟨0, rfl⟩⟩
  case round =>
    obtain ⟨k, hk, rfl, ⟨q, rfl⟩⟩ := hrel
    by_cases hlt : k < n
    · obtain ⟨b, off, x, rfl, hx, hcell⟩ := HR.out.atS hlt
      obtain ⟨b', off', y, rfl, hy, hcell'⟩ := HR'.out.atS hlt
      rw [hx] at hy
      obtain rfl := Option.some.inj hy
      have bx : (x != x) = false := by simp
      clear hx hy
      go_wp2
      go_quiet (fail)
      go_wp2
      go_roundw
      case rel => exact ⟨k + 1, by omega, by go_num, ⟨_, rfl⟩⟩
      case measure => simp [intOf]; omega
    · go_wp2
      go_ret
      exact ⟨rfl, grew_drewN _ _⟩

set_option maxRecDepth 100000 in
theorem markText (K : Nat) (w : World) (h1 : 1 ≤ K) (h2 : K ≤ 13000000000000) :
    Calls Tryd.prog 33 #[.int .i64 K] w fun e w' => e = .returned (.string ⟨(109 :: decDigits K).toArray⟩) ∧ Grew w w' := by
  have HL := Lib.hid (dec_len K (by omega))
  go_enter Tryd.func33, Tryd.ntmps33
  go_wp2
  go_loopw [0, 3] (fun n out W => ∃ (m : Nat) (r : List UInt8), m ≤ 13000000000000 ∧ (if m = 0 then [] else decDigits m) ++ r = decDigits K ∧ n = .int .i64 m ∧ out = .string ⟨r.toArray⟩ ∧ Grew w W) (fun n _ _ => (intOf n).toNat)
  case atStart => exact ⟨K, [], h2, by rw [if_neg (by omega)]; simp, rfl, rfl, gr⟩
  case round =>
    rename_i out W
    obtain ⟨m, r, hm, hD, rfl, rfl, hg⟩ := hrel
    have hr : r.length ≤ 19 := by have := HL.out; rw [← hD, List.length_append] at this; omega
    have HD := Lib.hid hD
    clear hD
    by_cases h9 : 0 < m
    · have cv := conv1 wr (48 + (m : Int) % 10) (by omega) (by omega)
      rw [show (48 + (m : Int) % 10).toNat = 48 + m % 10 by omega] at cv
      have HS : Hid ((if m / 10 = 0 then [] else decDigits (m / 10)) ++ UInt8.ofNat (48 + m % 10) :: r = decDigits K) := Lib.hid (by
        rw [← HD.out, if_neg (show ¬ m = 0 by omega)]
        by_cases h : m < 10
        · rw [if_pos (show m / 10 = 0 by omega), dec_last (m := m) (by omega), Nat.mod_eq_of_lt h]
          rfl
        · rw [if_neg (show ¬ m / 10 = 0 by omega), dec_step (m := m) (by omega)]
          simp)
      generalize UInt8.ofNat (48 + m % 10) = c at cv HS
      go_wp2
      go_roundw
      case rel => exact ⟨m / 10, c :: r, by omega, HS.out, by go_num, rfl, gr⟩
      case measure => simp [intOf]; omega
    · obtain rfl : m = 0 := by omega
      have HS : Hid (decDigits K = r) := Lib.hid (by rw [← HD.out]; rfl)
      go_wp2
      go_ret
      exact ⟨by rw [HS.out]; rfl, gr⟩

def marksS (k0 n : Nat) : List (List UInt8) := (List.range n).map fun j => 109 :: decDigits (k0 + j)
theorem marksS_at {k0 n j : Nat} (h : j < n) : (marksS k0 n)[j]? = some (109 :: decDigits (k0 + j)) := by simp [marksS, h]
set_option maxHeartbeats 2000000 in
theorem markStrS (a : Option Addr) (n cap : Nat) (k0 : Nat) (cs : List Value) (B : Nat) (w : World) (ho : w.ownsRow B 9 1 (.slice a n cap) n cs) (hcs : ∀ u ∈ cs, u.oneCell' = true) (h1 : 1 ≤ k0) (hk0 : k0 ≤ 11000000000000) (hm : n ≤ 1099511627776) :
    Calls Tryd.prog 15 #[.slice a n cap, .int .i64 k0] w fun e w' => e = .returned (.int .i64 ((k0 + n * 1 : Nat) : Int)) ∧
      w'.ownsRow B 9 1 (.slice a n cap) n (strs (marksS k0 n)) ∧ Chg (fun b => (Value.slice a n cap).ownBlock = some b) w w' := by
  have HO := Lib.hid ho; clear ho
  go_enter Tryd.func15, Tryd.ntmps15
  go_wp2
  go_loopw [1, 5] (fun kk i wr => ∃ k K : Nat, k ≤ n ∧ K = k0 + k ∧ i = .int .i64 k ∧ kk = .int .i64 K ∧ Chg (fun b => (Value.slice a n cap).ownBlock = some b) w wr ∧
    ∃ ys, wr.ownsRow B 9 1 (.slice a n cap) n ys ∧ ∀ j, j < k → ys[j]? = (strs (marksS k0 n))[j]?) (fun _ i _ => n - (intOf i).toNat)
  case atStart => exact ⟨0, k0, Nat.zero_le _, by omega, rfl, rfl, Chg.refl _ _, _, HO.out, fun j hj => absurd hj (Nat.not_lt_zero _)⟩
  case round =>
    obtain ⟨k, K, hk, hK, rfl, rfl, hg, ys, how, hys⟩ := hrel
    have hK1 : K ≤ 13000000000000 := by omega
    have hK2 : 1 ≤ K := by omega
    have HK := Lib.hid hK; clear hK
    have HY := Lib.hid hys; clear hys
    by_cases hlt : k < n
    · obtain ⟨g, rfl⟩ : ∃ g, a = some ⟨g, 0, none⟩ := by
        rcases how.2 with ⟨h1, h2⟩ | ⟨g, cap', cur, h1, _⟩
        · omega
        · simp only [Value.slice.injEq] at h1
          exact ⟨g, h1.1⟩
      have HG := Lib.hid hg; clear hg
      have HW := Lib.hid how; clear how
      have CT := Lib.hid fun w => markText K w hK2 hK1
      go_wp2_with fail
      refine (CT.out _).mono ?_
      rintro e w3 ⟨rfl, g3⟩
      have how := owns_grew HW.out g3
      have HG3 := Lib.hid g3; clear g3
      have hcell := how.cellAt k (by omega)
      have hl := how.1
      obtain ⟨y, hy⟩ : ∃ y, ys[k]? = some y := ⟨ys[k]'(by omega), List.getElem?_eq_getElem _⟩
      rw [hy] at hcell
      have hfz := how.frozenAt k
      have HW3 := Lib.hid how; clear how
      have HLn := Lib.hid hl
      clear hy hl CT
      go_wp2
      go_roundw
      case rel =>
        obtain ⟨ho', hg'⟩ := HW3.out.stored k (.string ⟨(109 :: decDigits K).toArray⟩)
        refine ⟨k + 1, K + 1, by omega, by have := HK.out; omega, by go_num, by go_num, ((HG.out.trans (Chg.of_below HG3.out : Chg (fun b => (Value.slice (some ⟨g, 0, none⟩) n cap).ownBlock = some b) _ _) (fun _ _ h => h) (fun i _ h => h)).trans (Chg.of_grownBy hg') (fun _ _ h => h) (fun i _ h => ?_)), _, ho', fun j hj => ?_⟩
        · simpa [Value.ownBlock, eq_comm] using h
        · rcases Nat.lt_or_ge j k with h | h
          · rw [List.getElem?_set_ne (by omega)]; exact HY.out j h
          · obtain rfl : j = k := by omega
            rw [List.getElem?_set_self (by have := HLn.out; omega), strs_at, marksS_at hlt, HK.out]
            rfl
      case measure => simp [intOf]; omega
    · obtain rfl : k = n := by omega
      have HW := Lib.hid how; clear how
      have HG := Lib.hid hg; clear hg
      go_wp2
      go_ret
      have he : ys = strs (marksS k0 k) := by
        apply List.ext_getElem?
        intro j
        rcases Nat.lt_or_ge j k with h | h
        · exact HY.out j h
        · rw [List.getElem?_eq_none (by have := HW.out.1; omega), List.getElem?_eq_none (by rw [strs_len]; simp [marksS]; omega)]
      subst he
      exact ⟨by rw [HK.out]; simp, HW.out, HG.out⟩

theorem heldStrG (a : Option Addr) (n cap : Nat) (k0 : Nat) (w : World) (hr : Rd w a n 1 (strs (marksS k0 n))) (h1 : 1 ≤ k0) (hk0 : k0 ≤ 11000000000000) (hm : n ≤ 1099511627776) :
    Calls Tryd.prog 16 #[.slice a n cap, .int .i64 k0] w fun e w' => e = .returned (.int .i64 ((k0 + n * 1 : Nat) : Int)) ∧ Grew w w' := by
  have HR := Lib.hid hr; clear hr
  go_enter Tryd.func16, Tryd.ntmps16
  go_wp2
  go_loopw [1, 5] (fun kk i wr => ∃ k K : Nat, k ≤ n ∧ K = k0 + k ∧ i = .int .i64 k ∧ kk = .int .i64 K ∧ Grew w wr) (fun _ i _ => n - (intOf i).toNat)
  case atStart => exact ⟨0, k0, Nat.zero_le _, by omega, rfl, rfl, gr⟩
  case round =>
    obtain ⟨k, K, hk, hK, rfl, rfl, hg⟩ := hrel
    have hK1 : K ≤ 13000000000000 := by omega
    have hK2 : 1 ≤ K := by omega
    have HK := Lib.hid hK; clear hK
    by_cases hlt : k < n
    · obtain ⟨b, off, x, rfl, hx, hcell⟩ := (HR.out.grew hg).atS hlt
      rw [marksS_at hlt, ← HK.out] at hx
      obtain rfl := Option.some.inj hx
      have HG := Lib.hid hg; clear hg hx
      have CT := Lib.hid fun w => markText K w hK2 hK1
      generalize (109 :: decDigits K) = x at *
      have bx : (x != x) = false := by simp
      have hb := World.block_lt_of_cell? wr _ hcell
      simp only at hb
      go_wp2_with fail
      first | refine wp_region_ext2 (by kernel_rfl) (by kernel_rfl) ?_ | refine wp_region_ext (by kernel_rfl) (by kernel_rfl) ?_
      repeat (go_big_quiet_step ((first | (with_reducible exact ext_grow (CT.out _)))))
      refine wpQuiet_nil ?_
      intro _ hw'
      obtain ⟨y, hw''⟩ := hw'
      subst hw''
      have hg := grew_tr HG.out (ext_grew _ y)
      have HG2 := Lib.hid hg; clear hg
      go_wp2
      go_roundw
      case rel => exact ⟨k + 1, K + 1, by omega, by have := HK.out; omega, by go_num, by go_num, HG2.out⟩
      case measure => simp [intOf]; omega
    · obtain rfl : k = n := by omega
      have HG := Lib.hid hg; clear hg
      go_wp2
      go_ret
      exact ⟨by rw [HK.out]; simp, HG.out⟩
end Go.Proofs.YtcdfomoglkhboaaDoor
